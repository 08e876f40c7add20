/- An abstract machine over values: the orders of a region, last part. -/
import Derived.Test.YtpopccnnjpdmlaaVmU
namespace Go.Proofs.Ytpopccnnjpdmlaa.Vm
open Go Go.RowKit
set_option linter.unusedVariables false
set_option linter.unusedSimpArgs false
def vcore (E : Env) (s : AS) (o : VO) (r : Out) : Prop :=
  match o.g with
  | none => core E s o.d o.k r
  | some (t, w) => ∃ b, gOf (s.get t) = some b ∧ if b = some w then core E s o.d o.k r else r = ⟨.tup [], none, 0⟩
def VO.looks (o : VO) : List Nat := (match o.g with | some (t, _) => [t] | none => []) ++ o.k.looks
section
variable {E : Env} {s : AS}
theorem vop_core {o : VO} {Q : AS → Prop} (hk : o.k.quiet = true) (h : vop E o s Q) : ∃ r, vcore E s o r ∧ fresh s o.d r.fk ∧ Q (s.out o.d r) := by
  unfold vop at h
  unfold vcore
  cases hg : o.g with
  | none => rw [hg] at h; exact vact_core hk h
  | some p =>
    obtain ⟨t, w⟩ := p
    rw [hg] at h
    obtain ⟨b, hb, h⟩ := h
    by_cases e : b = some w
    · rw [if_pos e] at h
      obtain ⟨r, h1, h2⟩ := vact_core hk h
      exact ⟨r, ⟨b, hb, by rw [if_pos e]; exact h1⟩, h2⟩
    · rw [if_neg e] at h
      exact ⟨⟨.tup [], none, 0⟩, ⟨b, hb, by rw [if_neg e]⟩, fresh0, h⟩
theorem core_vop {o : VO} {Q : AS → Prop} {r : Out} (h : vcore E s o r) (hf : fresh s o.d r.fk) (hq : Q (s.out o.d r)) : vop E o s Q := by
  unfold vcore at h
  unfold vop
  cases hg : o.g with
  | none => rw [hg] at h; exact core_vact h hf hq
  | some p =>
    obtain ⟨t, w⟩ := p
    rw [hg] at h
    obtain ⟨b, hb, h⟩ := h
    refine ⟨b, hb, ?_⟩
    by_cases e : b = some w
    · rw [if_pos e] at h ⊢; exact core_vact h hf hq
    · rw [if_neg e] at h ⊢
      obtain rfl := h
      exact hq
theorem vcore_congr {s' : AS} {o : VO} {r : Out} (h : vcore E s o r) (hg : ∀ u ∈ o.looks, s'.get u = s.get u) (hb : ∀ (ag : Bool) (sz : Nat) (x : Od), o.k = .ld ag sz x → ∀ n i o, s.val x = .ptr n i o → look s'.bxs n = look s.bxs n) : vcore E s' o r := by
  unfold vcore at h ⊢
  have h1 : ∀ u ∈ o.k.looks, s'.get u = s.get u := fun u hu => hg u (List.mem_append_right _ hu)
  cases e : o.g with
  | none => rw [e] at h; exact core_congr h h1 hb
  | some p =>
    obtain ⟨t, w⟩ := p
    rw [e] at h
    obtain ⟨b, hb', h⟩ := h
    refine ⟨b, by rw [hg t (by unfold VO.looks; rw [e]; simp)]; exact hb', ?_⟩
    split at h
    · rename_i e; rw [if_pos e]; exact core_congr h h1 hb
    · rename_i e; rw [if_neg e]; exact h
theorem vcore_nb {o : VO} {r : Out} (h : vcore E s o r) : r.nb = none ∨ r.fk = 2 := by
  unfold vcore at h
  split at h
  · exact core_nb h
  · obtain ⟨b, _, h⟩ := h
    split at h
    · exact core_nb h
    · obtain rfl := h; exact .inl rfl
theorem vcore_fk {o : VO} {r : Out} (h : vcore E s o r) (hk : o.k.mayFresh = false) : r.fk = 0 := by
  unfold vcore at h
  split at h
  · exact core_fk h hk
  · obtain ⟨b, _, h⟩ := h
    split at h
    · exact core_fk h hk
    · obtain rfl := h; rfl
theorem vcore_ok1 {pc pb : Nat → Bool} {o : VO} {r : Out} (h : vcore E s o r) (hk : o.k.pl = true) (hg : ∀ u ∈ o.looks, ok1 pc pb (s.get u) = true) (hb : ∀ n l, look s.bxs n = some l → ok1.okL pc pb l = true) (ht : ∀ t, o.d = some t → ∀ c, c < 64 → pc (64 * t + c) = true) (hn : ∀ t, o.d = some t → pb (1000 + t) = true) : ok1 pc pb r.v = true ∧ ∀ l, r.nb = some l → ok1.okL pc pb l = true := by
  have h1 : ∀ u ∈ o.k.looks, ok1 pc pb (s.get u) = true := fun u hu => hg u (List.mem_append_right _ hu)
  unfold vcore at h
  split at h
  · exact core_ok1 h hk h1 hb ht hn
  · obtain ⟨b, _, h⟩ := h
    split at h
    · exact core_ok1 h hk h1 hb ht hn
    · obtain rfl := h; exact ⟨rfl, fun l hl => (by cases hl)⟩
theorem get_out (s : AS) (t : Nat) (r : Out) (u : Nat) : (s.out (some t) r).get u = if u = t then r.v else s.get u := by
  unfold AS.out
  cases hr : r.nb with
  | none => exact get_put _ _ _ _
  | some l => exact get_put _ _ _ _
theorem look_out (s : AS) (t : Nat) (r : Out) (n : Nat) : look (s.out (some t) r).bxs n = if n = 1000 + t then (r.nb.or (look s.bxs n)) else look s.bxs n := by
  unfold AS.out
  cases hr : r.nb with
  | none =>
    simp only [Option.none_or]
    split <;> rfl
  | some l =>
    show look (s.setB (1000 + t) l).bxs n = _
    rw [look_setB]
    rfl
theorem out_comm (s : AS) {t1 t2 : Nat} (h : t1 ≠ t2) (r1 r2 : Out) : (s.out (some t1) r1).out (some t2) r2 = (s.out (some t2) r2).out (some t1) r1 := by
  unfold AS.out
  cases r1.nb <;> cases r2.nb
  · simp only [AS.putO, AS.put, AS.setB]
    rw [setL_comm _ _ _ _ h]
  · simp only [AS.putO, AS.put, AS.setB]
    rw [setL_comm _ _ _ _ h]
  · simp only [AS.putO, AS.put, AS.setB]
    rw [setL_comm _ _ _ _ h]
  · simp only [AS.putO, AS.put, AS.setB]
    rw [setL_comm _ _ _ _ h, setL_comm (1000 + t1) _ _ _ (by omega)]
theorem allV_set {α : Type} {p : α → Bool} {t : Nat} {v : α} : ∀ {l : List (Nat × α)}, allV p l = true → p v = true → allV p (setL t v l) = true
  | [], _, hv => by simp [setL, allV, hv]
  | (u, y) :: l, h, hv => by
    simp only [allV, Bool.and_eq_true] at h
    simp only [setL]
    split
    · simp [allV, hv, h.1, h.2]
    · split
      · simp [allV, hv, h.2]
      · simp [allV, h.1, allV_set h.2 hv]
theorem allV_unset {α : Type} {p : α → Bool} {t : Nat} {v : α} : ∀ {l : List (Nat × α)}, allV p (setL t v l) = true → (∀ w, look l t = some w → p w = true) → allV p l = true
  | [], _, _ => rfl
  | (u, y) :: l, h, hl => by
    simp only [setL] at h
    simp only [look] at hl
    split at h
    · simp only [allV, Bool.and_eq_true] at h ⊢
      exact h.2
    · split at h
      · rename_i e
        simp only [allV, Bool.and_eq_true] at h ⊢
        rw [if_pos e] at hl
        exact ⟨hl y rfl, h.2⟩
      · rename_i e
        simp only [allV, Bool.and_eq_true] at h ⊢
        rw [if_neg e] at hl
        exact ⟨h.1, allV_unset h.2 hl⟩
/-- all in it is so -/
def allS (p : AV → Bool) (pL : List AV → Bool) (s : AS) : Bool := allV p s.env && allV pL s.bxs
theorem noC_allS (s : AS) (d : Nat) : s.noC d = allS (ok1 (fun k => k / 64 != d) (fun _ => true)) (ok1.okL (fun k => k / 64 != d) (fun _ => true)) s := by
  unfold AS.noC allS
  rw [funext (ok1_noC d), funext (okL_noC d)]
theorem noB_allS (s : AS) (d : Nat) : s.noB d = allS (ok1 (fun _ => true) (fun k => k != d)) (ok1.okL (fun _ => true) (fun k => k != d)) s := by
  unfold AS.noB allS
  rw [funext (ok1_noB d), funext (okL_noB d)]
variable {pc pb : Nat → Bool}
theorem all_unout {t1 t2 : Nat} {r : Out} (h12 : t1 ≠ t2) (h : allS (ok1 pc pb) (ok1.okL pc pb) ((s.out (some t1) r).putO (some t2) .un) = true) (hu : s.get t1 = .un) (hb : look s.bxs (1000 + t1) = none) : allS (ok1 pc pb) (ok1.okL pc pb) (s.putO (some t2) .un) = true := by
  unfold allS at h ⊢
  simp only [Bool.and_eq_true] at h ⊢
  have henv : allV (ok1 pc pb) (setL t1 r.v (setL t2 .un s.env)) = true := by
    have h1 := h.1
    unfold AS.out at h1
    cases hr : r.nb <;> rw [hr] at h1 <;> (rw [setL_comm _ _ _ _ h12]; exact h1)
  refine ⟨allV_unset henv fun w hw => ?_, ?_⟩
  · change look (setL t2 .un s.env) t1 = some w at hw
    rw [look_setL, if_neg h12] at hw
    unfold AS.get at hu
    rw [hw] at hu
    have : w = .un := hu
    rw [this]; rfl
  · have h2 := h.2
    unfold AS.out at h2
    cases hr : r.nb with
    | none => rw [hr] at h2; exact h2
    | some l =>
      rw [hr] at h2
      exact allV_unset (t := 1000 + t1) (v := l) h2 fun w hw => by rw [show (s.putO (some t2) AV.un).bxs = s.bxs from rfl, hb] at hw; cases hw
theorem all_out {t1 t2 : Nat} {r : Out} (h12 : t1 ≠ t2) (h : allS (ok1 pc pb) (ok1.okL pc pb) (s.putO (some t1) .un) = true) (hv : ok1 pc pb r.v = true) (hn : ∀ l, r.nb = some l → ok1.okL pc pb l = true) : allS (ok1 pc pb) (ok1.okL pc pb) ((s.out (some t2) r).putO (some t1) .un) = true := by
  unfold allS at h ⊢
  simp only [Bool.and_eq_true] at h ⊢
  have henv := allV_set (t := t2) h.1 hv
  unfold AS.out
  cases hr : r.nb with
  | none =>
    refine ⟨?_, h.2⟩
    show allV _ (setL t1 .un (setL t2 r.v s.env)) = true
    rw [setL_comm _ _ _ _ h12]
    exact henv
  | some l =>
    refine ⟨?_, allV_set h.2 (hn l hr)⟩
    show allV _ (setL t1 .un (setL t2 r.v s.env)) = true
    rw [setL_comm _ _ _ _ h12]
    exact henv
/-- Two operations may change places. -/
def comm (A B : VO) : Bool :=
  match A.d, B.d with
  | some t1, some t2 => (t1 != t2) && !(B.looks.contains t1) && !(A.looks.contains t2) && A.k.quiet && B.k.quiet && A.k.pl && B.k.pl && (match A.k with | .as _ => !B.k.mayFresh | _ => true)
  | some t1, none => (match A.k with | .ld _ _ _ => false | _ => true) && A.k.quiet && !A.k.mayFresh && !(B.looks.contains t1) && isNone B.g && (match B.k with | .st _ _ _ => true | _ => false)
  | _, _ => false
theorem swap_quiet {A B : VO} {Q : AS → Prop} {t1 t2 : Nat} (hA : A.d = some t1) (hB : B.d = some t2) (h12 : t1 ≠ t2) (hl1 : t1 ∉ B.looks) (hl2 : t2 ∉ A.looks) (qA : A.k.quiet = true) (qB : B.k.quiet = true) (pA : A.k.pl = true) (pB : B.k.pl = true) (hUn : B.k.mayFresh = false ∨ (s.get t1 = .un ∧ look s.bxs (1000 + t1) = none)) (h : vop E A s fun s1 => vop E B s1 Q) : vop E B s fun s1 => vop E A s1 Q := by
  obtain ⟨r1, c1, f1, h⟩ := vop_core qA h
  obtain ⟨r2, c2, f2, h⟩ := vop_core qB h
  rw [hA] at f1 h f2 c2
  rw [hB] at h f2
  have gA : ∀ u, u ≠ t1 → (s.out (some t1) r1).get u = s.get u := fun u hu => by rw [get_out, if_neg hu]
  have gB : ∀ u, u ≠ t2 → (s.out (some t2) r2).get u = s.get u := fun u hu => by rw [get_out, if_neg hu]
  -- a load's box is another than the new one
  have ldne : ∀ {t : Nat} {o : VO} {r : Out}, fresh s (some t) r.fk → r.nb = none ∨ r.fk = 2 → o.k.pl = true → t ∉ o.looks → ∀ (ag : Bool) (sz : Nat) (x : Od), o.k = .ld ag sz x → ∀ n i off, s.val x = .ptr n i off → look (s.out (some t) r).bxs n = look s.bxs n := by
    intro t o r hf hn hp hlk ag sz x hk n i off hx
    rw [look_out]
    split
    · rename_i e
      rcases hn with hn | hn
      · rw [hn]; rfl
      · exfalso
        obtain ⟨t', e', hb⟩ := hf.2 hn
        obtain rfl := Option.some.inj e'
        cases x with
        | c y => rw [hk] at hp; cases hp
        | t u =>
          have hut : u ≠ t := by
            rintro rfl
            exact hlk (List.mem_append_right _ (by rw [hk]; simp [VK.looks, odT]))
          have := noB_of hb u hut
          have hx' : s.get u = .ptr n i off := hx
          rw [hx', e] at this
          simp [noB] at this
    · rfl
  have b1 := vcore_nb c1
  have b2 := vcore_nb c2
  -- B ahead of A
  have cB : vcore E s B r2 := by
    refine vcore_congr c2 (fun u hu => (gA u (fun e => hl1 (e ▸ hu))).symm) fun ag sz x hk n i off hx => ?_
    refine (ldne (o := B) f1 b1 pB hl1 ag sz x hk n i off ?_).symm
    rw [← hx]
    refine val_congr fun u hu => (gA u fun e => ?_).symm
    exact hl1 (e ▸ (List.mem_append_right _ (by rw [hk]; exact hu)))
  have fB : fresh s (some t2) r2.fk := by
    rcases hUn with hUn | ⟨hu1, hu2⟩
    · rw [vcore_fk c2 hUn]; exact fresh0
    · refine ⟨fun e => ?_, fun e => ?_⟩
      · obtain ⟨t, e', hn⟩ := f2.1 e
        obtain rfl := Option.some.inj e'
        refine ⟨_, rfl, ?_⟩
        rw [noC_allS] at hn ⊢
        exact all_unout h12 hn hu1 hu2
      · obtain ⟨t, e', hn⟩ := f2.2 e
        obtain rfl := Option.some.inj e'
        refine ⟨_, rfl, ?_⟩
        rw [noB_allS] at hn ⊢
        exact all_unout h12 hn hu1 hu2
  have cA : vcore E (s.out (some t2) r2) A r1 := by
    refine vcore_congr c1 (fun u hu => gB u (by rintro rfl; exact hl2 hu)) fun ag sz x hk n i off hx => ?_
    exact ldne (o := A) fB b2 pA hl2 ag sz x hk n i off hx
  have fA : fresh (s.out (some t2) r2) (some t1) r1.fk := by
    refine ⟨fun e => ?_, fun e => ?_⟩
    · obtain ⟨t, e', hn⟩ := f1.1 e
      obtain rfl := Option.some.inj e'
      refine ⟨_, rfl, ?_⟩
      have hok := vcore_ok1 (pc := fun k => k / 64 != t1) (pb := fun _ => true) cB pB (fun u hu => by rw [← ok1_noC]; exact noC_of hn u (fun e => hl1 (e ▸ hu))) (fun n l hl => by rw [← okL_noC]; exact noC_box hn hl) (fun t ht c hc => by rw [hB] at ht; obtain rfl := Option.some.inj ht; simp only [bne_iff_ne, ne_eq]; omega) (fun _ _ => rfl)
      rw [noC_allS] at hn ⊢
      exact all_out h12 hn hok.1 hok.2
    · obtain ⟨t, e', hn⟩ := f1.2 e
      obtain rfl := Option.some.inj e'
      refine ⟨_, rfl, ?_⟩
      have hok := vcore_ok1 (pc := fun _ => true) (pb := fun k => k != 1000 + t1) cB pB (fun u hu => by rw [← ok1_noB]; exact noB_of hn u (fun e => hl1 (e ▸ hu))) (fun n l hl => by rw [← okL_noB]; exact noB_box hn hl) (fun _ _ _ _ => rfl) (fun t ht => by rw [hB] at ht; obtain rfl := Option.some.inj ht; simp only [bne_iff_ne, ne_eq]; omega)
      rw [noB_allS] at hn ⊢
      exact all_out h12 hn hok.1 hok.2
  refine core_vop cB (by rw [hB]; exact fB) ?_
  rw [hB]
  refine core_vop cA (by rw [hA]; exact fA) ?_
  rw [hA, ← out_comm s h12]
  exact h
theorem swap_st {A B : VO} {Q : AS → Prop} {t1 : Nat} (hA : A.d = some t1) (hB : B.d = none) (hld : ∀ ag sz x, A.k ≠ .ld ag sz x) (qA : A.k.quiet = true) (mA : A.k.mayFresh = false) (hl1 : t1 ∉ B.looks) (hg : B.g = none) (hst : ∃ sz a x, B.k = .st sz a x) (h : vop E A s fun s1 => vop E B s1 Q) : vop E B s fun s1 => vop E A s1 Q := by
  obtain ⟨r1, c1, f1, h⟩ := vop_core qA h
  obtain ⟨sz, ad, x, hk⟩ := hst
  rw [hA] at f1 h
  have hfk := vcore_fk c1 mA
  have hnb : r1.nb = none := by
    rcases vcore_nb c1 with e | e
    · exact e
    · rw [hfk] at e; cases e
  have gA : ∀ u, u ≠ t1 → (s.out (some t1) r1).get u = s.get u := fun u hu => by rw [get_out, if_neg hu]
  have hs1 : s.out (some t1) r1 = s.put t1 r1.v := by unfold AS.out; rw [hnb]; rfl
  unfold vop at h ⊢
  rw [hg, hk, hB] at h ⊢
  simp only at h ⊢
  have va : (s.out (some t1) r1).val ad = s.val ad := val_congr fun u hu => gA u (by rintro rfl; exact hl1 (List.mem_append_right _ (by rw [hk]; simp [VK.looks, hu])))
  have vx' : (s.out (some t1) r1).val x = s.val x := val_congr fun u hu => gA u (by rintro rfl; exact hl1 (List.mem_append_right _ (by rw [hk]; simp [VK.looks, hu])))
  rcases h with ⟨n, i, o, h1, l, e, h2, h3, h4, h5, h6, h7, h8⟩ | ⟨c, cs, h1, h2, h3, h4, h5, h6⟩
  rotate_left
  · rw [va] at h1
    rw [vx'] at h4 h5
    rw [hs1] at h6
    refine .inr ⟨c, cs, h1, h2, h3, h4, h5, ?_⟩
    refine core_vop c1 (by rw [hA, hfk]; exact fresh0) ?_
    rw [hA]
    show Q (s.out (some t1) r1)
    rw [hs1]
    exact h6
  rw [va] at h1
  rw [vx'] at h5 h7 h8
  rw [hs1] at h2 h8
  refine .inl ⟨n, i, o, h1, l, e, h2, h3, h4, h5, h6, h7, ?_⟩
  have cA : vcore E (s.setB n (l.set i (putElem e o (s.val x)))) A r1 := vcore_congr c1 (fun _ _ => rfl) fun ag sz x hk => absurd hk (hld ag sz x)
  refine core_vop cA (by rw [hA, hfk]; exact fresh0) ?_
  rw [hA]
  have : (s.setB n (l.set i (putElem e o (s.val x)))).out (some t1) r1 = (s.setB n (l.set i (putElem e o (s.val x)))).put t1 r1.v := by unfold AS.out; rw [hnb]; rfl
  show Q ((s.setB n (l.set i (putElem e o (s.val x)))).out (some t1) r1)
  rw [this]
  exact h8
theorem swap {A B : VO} {Q : AS → Prop} (hc : comm A B = true) (ht : tmpOk s A = true) (h : vop E A s fun s1 => vop E B s1 Q) : vop E B s fun s1 => vop E A s1 Q := by
  unfold comm at hc
  cases hA : A.d with
  | none => rw [hA] at hc; cases B.d <;> cases hc
  | some t1 =>
    cases hB : B.d with
    | some t2 =>
      rw [hA, hB] at hc
      simp only [Bool.and_eq_true, bne_iff_ne, ne_eq, Bool.not_eq_true', List.contains_eq_mem, decide_eq_false_iff_not] at hc
      obtain ⟨⟨⟨⟨⟨⟨⟨c1, c2⟩, c3⟩, c4⟩, c5⟩, c6⟩, c7⟩, c8⟩ := hc
      refine swap_quiet hA hB c1 c2 c3 c4 c5 c6 c7 ?_ h
      unfold tmpOk at ht
      split at ht
      · rename_i e; rw [e] at c8; exact .inl (by simpa using c8)
      · rename_i e; rw [e] at c4; cases c4
      · rw [hA] at ht
        simp only [Bool.and_eq_true] at ht
        refine .inr ⟨?_, ?_⟩
        · have := ht.1
          cases hs : s.get t1 <;> rw [hs] at this <;> first | rfl | cases this
        · have := ht.2
          cases hs : look s.bxs (1000 + t1) <;> rw [hs] at this <;> first | rfl | cases this
    | none =>
      rw [hA, hB] at hc
      simp only [Bool.and_eq_true, Bool.not_eq_true', List.contains_eq_mem, decide_eq_false_iff_not] at hc
      obtain ⟨⟨⟨⟨⟨c1, c2⟩, c3⟩, c4⟩, c5⟩, c6⟩ := hc
      refine swap_st hA hB (fun ag sz x e => by rw [e] at c1; cases c1) c2 c3 c4 ?_ ?_ h
      · cases hg : B.g <;> rw [hg] at c5 <;> first | rfl | cases c5
      · cases hk : B.k <;> rw [hk] at c6 <;> first | exact ⟨_, _, _, rfl⟩ | cases c6
end
end Go.Proofs.Ytpopccnnjpdmlaa.Vm
