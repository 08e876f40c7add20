/- The walks and laws of this claim: Vb. -/
import Derived.Laws.BytesArg
import Derived.IntWalk
import Derived.Lib.MinMax
import Derived.Test.YticockdhfglolaaGreatDoorPa1
/- An abstract machine over values: every operation does what it is said to do. -/
namespace Go.Proofs.YticockdhfglolaaGreatDoor.Vm
open Go Go.RowKit
set_option linter.unusedVariables false
set_option linter.unusedSimpArgs false
section
variable {E : EnvK} {x0 x : X} {w0 w : World} {pb nt : Nat} {a : Act} {s : AS}
/-- What an operation's end must be. -/
abbrev Next2 (E : EnvK) (x0 : X) (w0 : World) (pb nt : Nat) (Q : AS → Prop) (a' : Act) (w' : World) : Prop := ∃ x' s', Q s' ∧ St E x0 w0 pb nt x' a' w' s'
theorem v_run {P : Program} {m : Sem Value} {v : Value} {w w' : World} (h : m.run P w = .ok v w') : (do pure (Next.value (← m)) : Sem Next).run P w = .ok (.value v) w' := by
  simp [h]
theorem relv (h : St E x0 w0 pb nt x a w s) {y : Operand} {y' : Od} (hy : od y = some y') : Rel x w0.heap.size (a.eval y) (s.val y') := od_rel h.env hy
theorem litv (h : St E x0 w0 pb nt x a w s) {y : Operand} {y' : Od} {u : Value} (hy : od y = some y') (hv : s.val y' = .lit u) : a.eval y = u := by
  have r := relv h hy
  rw [hv] at r
  exact r.lit_inv
theorem slice_rel {x : X} {base : Nat} {v : Value} {m : Mk} {z : Nat} {xs : List AV} {ap : Ap} (r : Rel x base v (.sl m z xs)) {l h : Nat} (hl : l ≤ h) (hh : h ≤ xs.length) (hap : ap = .no ∨ (ap = noOw m.ap ∧ h = xs.length)) :
    ∃ A cap, v = .slice A xs.length cap ∧ xs.length ≤ cap ∧ Rel x base (.slice (if cap = l then A else A.map (·.add (l * z))) (h - l) (cap - l)) (.sl ⟨ap, m.fr⟩ z ((xs.take h).drop l)) := by
  have hni : ∀ k, ap ≠ .id k := by
    intro k e
    rcases hap with h1 | ⟨h1, _⟩
    · rw [h1] at e; cases e
    · rw [h1] at e; cases hm : m.ap <;> rw [hm] at e <;> cases e
  have data : ∀ {G : Gh}, RepD G x.nm v (.sl m z xs) → ∃ A cap, v = .slice A xs.length cap ∧ xs.length ≤ cap ∧ RepD G x.nm (.slice (if cap = l then A else A.map (·.add (l * z))) (h - l) (cap - l)) (.sl ⟨ap, m.fr⟩ z ((xs.take h).drop l)) := by
    intro G hr
    cases hr with
    | sl A n cap _ _ _ b o f h1 h2 h3 h4 h5 h6 _ =>
      subst h1
      refine ⟨A, cap, rfl, h2, .sl _ _ _ _ _ _ b (o + l * z) (fun i j => f (i + l) j) (by simp; omega) (by omega) (fun hne => ?_) (fun i y hy => ?_) (fun i y j c hy hc => ?_) (fun i y j c hy hc => ?_) (fun k hk => absurd hk (hni k))⟩
      · have hlt : l < h := by
          rcases Nat.lt_or_ge l h with h7 | h7
          · exact h7
          · exact (hne (by rw [List.drop_eq_nil_iff]; simp; omega)).elim
        have hxs : xs ≠ [] := by rintro rfl; simp at hh; omega
        rw [if_neg (by omega), h3 hxs, Option.map_some, add0]
      all_goals
        rw [List.getElem?_drop, List.getElem?_take] at hy
        split at hy
        · first
          | exact h4 _ _ hy
          | (have := h5 _ _ _ _ hy hc
             rw [Nat.add_comm l i] at this
             rw [show o + l * z + i * z + j = o + (i + l) * z + j by rw [Nat.add_mul]; omega]
             exact this)
          | (have := h6 _ _ _ _ hy hc
             rw [Nat.add_comm l i] at this
             exact this)
        · cases hy
  cases r with
  | sl _ _ _ _ h1 h2 h3 =>
    obtain ⟨A, cap, e1, e2, e3⟩ := data h1
    refine ⟨A, cap, e1, e2, .sl _ _ _ _ e3 (fun hf => ?_) ?_⟩
    · obtain ⟨A', cap', e4, e5, e6⟩ := data (h2 hf)
      rw [e1] at e4
      injection e4 with q1 _ q2
      rw [q1, q2]; exact e6
    · rcases hap with rfl | ⟨rfl, hh2⟩
      · trivial
      · cases hm : m.ap with
        | no => trivial
        | nl =>
          rw [hm] at h3
          obtain ⟨A', e⟩ := h3
          rw [e1] at e
          injection e with q1 q2 q3
          have : h - l = 0 ∧ cap - l = 0 := by omega
          exact ⟨_, by rw [this.1, this.2]⟩
        | ow t => trivial
        | id t => trivial
        | cl c =>
          rw [hm] at h3
          rcases h3 with ⟨A', e⟩ | ⟨b, o, n, cap', e, ht⟩
          · rw [e1] at e
            injection e with q1 q2 q3
            have : h - l = 0 ∧ cap - l = 0 := by omega
            exact .inl ⟨_, by rw [this.1, this.2]⟩
          · rw [e1] at e
            injection e with q1 q2 q3
            subst q1 q2 q3
            by_cases hc : cap = l
            · exact .inl ⟨_, by rw [show h - l = 0 by omega, show cap - l = 0 by omega]⟩
            · refine .inr ⟨b, o + l * z, h - l, cap - l, by rw [if_neg hc, Option.map_some, add0], ?_⟩
              rw [ht]
              have e1 : l * z + (h - l) * z = xs.length * z := by rw [← Nat.add_mul]; congr 1; omega
              have e2 : l * z + (cap - l) * z = cap * z := by rw [← Nat.add_mul]; congr 1; omega
              rw [show o + l * z + (h - l) * z = o + xs.length * z by omega, show o + l * z + (cap - l) * z = o + cap * z by omega]
theorem b2s_run {P : Program} {A : Option Addr} {n cap : Nat} {l : List UInt8} {b o : Nat} (hn : n = l.length) (hA : l ≠ [] → A = some ⟨b, o, none⟩) (w : World) (hc : ∀ (k : Nat) (u : UInt8), l[k]? = some u → w.cell? ⟨b, o + k, none⟩ = some (.int .u8 u.toNat)) : (Conv.bytesToString (.slice A n cap)).run P w = .ok (.string ⟨l.toArray⟩) w := by
  subst hn
  cases A with
  | none =>
    have : l = [] := by
      cases l with
      | nil => rfl
      | cons x l => have := hA (by simp); cases this
    subst this
    rfl
  | some ad =>
    have hl := run_loadCells_list (P := P) w ad (l.map fun u => Value.int .u8 u.toNat) (fun j v hv => by
      rw [List.getElem?_map] at hv
      obtain ⟨u, hu, rfl⟩ := Option.map_eq_some_iff.1 hv
      have hne : l ≠ [] := by rintro rfl; simp at hu
      have := hA hne
      injection this with this
      rw [this, add0]
      exact hc j u hu)
    rw [List.length_map] at hl
    rw [run_bytesToString w ad l.length cap (l.map fun u => (u.toNat : Int)) (by rw [hl, List.map_map]; rfl), foldl_push_bytes]
    congr 2
    apply ByteArray.ext
    simp [ByteArray.empty, ByteArray.emptyWithCapacity]
    show List.map ((fun n => UInt8.ofNat n.toNat) ∘ fun u : UInt8 => (u.toNat : Int)) l = l
    rw [show ((fun n : Int => UInt8.ofNat n.toNat) ∘ fun u : UInt8 => (u.toNat : Int)) = id from by funext u; simp, List.map_id]
theorem ofV_cells (x : X) (base : Nat) (z : Value) : z.cells.size = (AV.ofV z).cells.length ∧ ∀ (j : Nat) (v : Value) (c : AV), z.cells[j]? = some v → (AV.ofV z).cells[j]? = some c → Rel x base v c := by
  have leaf : z.cells = #[z] → AV.ofV z = AV.ofC z → z.cells.size = (AV.ofV z).cells.length ∧ ∀ (j : Nat) (v : Value) (c : AV), z.cells[j]? = some v → (AV.ofV z).cells[j]? = some c → Rel x base v c := by
    intro h1 h2
    have h3 : (AV.ofC z).cells = [AV.ofC z] := by
      unfold AV.ofC
      split
      · rfl
      · split <;> rfl
    rw [h1, h2, h3]
    refine ⟨rfl, fun j v c hv hc => ?_⟩
    cases j with
    | zero =>
      simp at hv hc
      subst hv hc
      exact ofC_rel _ _ _
    | succ j => simp at hc
  cases z with
  | agg cs =>
    refine ⟨by simp [AV.ofV, Value.cells, AV.cells], fun j v c hv hc => ?_⟩
    simp only [AV.ofV, AV.cells, List.getElem?_map, Array.getElem?_toList] at hc
    simp only [Value.cells] at hv
    rw [hv] at hc
    obtain rfl := Option.some.inj hc
    exact ofC_rel _ _ _
  | _ => exact leaf rfl rfl
theorem call_run (h : St E x0 w0 pb nt x a w s) (hK : ∀ n, n < pb → E.ng ≤ x0.bx n) {q : Bool} {d : Option Nat} (hd : ∀ t, d = some t → t < nt) {f : Nat} {args : Array Value} {vs : List AV} (hlen : args.size = vs.length) (hargs : ∀ (i : Nat) (v : Value) (c : AV), args[i]? = some v → vs[i]? = some c → Rel x w0.heap.size v c) {Q : AS → Prop} (hv : vcall E q s d f vs Q) :
    Calls E.P f args w fun
      | .returned v, w'' => Next2 E x0 w0 pb nt Q (a.put d v) w''
      | .panicked chain, w'' => False
      | .outgrown, _ => False := by
  obtain ⟨h1, h2, t, rfl, h3, bs, h4, h5, bs', r, h6, h7, hq⟩ := hv
  refine (h.call hK (q := q) (hd t rfl) hlen hargs h1 h3 h4 h5 (fun _ hk => hk.elim) h6 h7).mono ?_
  rintro e w' ⟨v, x', rfl, hst, _⟩
  exact ⟨x', _, hq, hst⟩
theorem call_run2 (h : St E x0 w0 pb nt x a w s) (hK : ∀ n, n < pb → E.ng ≤ x0.bx n) {q : Bool} {d : Option Nat} (hd : ∀ t, d = some t → t < nt) {f : Nat} {args : Array Value} {vs : List AV} (hlen : args.size = vs.length) (hargs : ∀ (i : Nat) (v : Value) (c : AV), args[i]? = some v → vs[i]? = some c → Rel x w0.heap.size v c) {Q : AS → Prop} (hv : vcall2 E q s d f vs Q) :
    Calls E.P f args w fun
      | .returned v, w'' => Next2 E x0 w0 pb nt Q (a.put d v) w''
      | .panicked chain, w'' => False
      | .outgrown, _ => False := by
  rcases hv with ⟨hv, _⟩ | ⟨_, hv⟩ | ⟨_, hv⟩
  · exact call_run h hK hd hlen hargs hv
  rotate_left
  · obtain ⟨h1, h2, t, rfl, h3, K, y, hKn, hI, hIv, _, hF, hq⟩ := hv
    have hs1 := (h.forget (some t)).reN hKn hI
    have hnc : ((s.putO (some t) .un).putO (some t) .un).noC t = true := by simp only [AS.putO, put_put] at h3 ⊢; exact h3
    refine (hs1.call hK (q := q) (t := t) (hd t rfl) hlen (fun i v c hv hc => (hargs i v c hv hc).reN X.drop_nm (noIL_get hIv hc)) h1 hnc (bs := []) (bs' := []) (by rw [h2]; rfl) rfl (K := K) (fun k hk => ⟨hKn k hk, by
      unfold X.drop
      simp only
      rw [if_pos hk]⟩) (by rw [h2]; exact hF) rfl).mono ?_
    rintro e w' ⟨v, x', rfl, hst, _⟩
    rw [h2] at hst
    simp only [dd, setBs, List.map_nil, AS.putO, put_put] at hst
    exact ⟨x', _, hq, hst⟩
  · refine (hv x0 w0 pb nt x a w h hK hd args hlen hargs).mono ?_
    rintro e w' ⟨v, x', s', rfl, hq, _, hst⟩
    exact ⟨x', s', hq, hst⟩
theorem bsb_lit {s : AS} : ∀ {xs : List Od}, bsbOk xs = true → ∀ {k : Nat} {c : AV}, (s.vals xs)[k]? = some c → ∃ u, c = .lit (.int .i64 u) := by
  intro xs h
  unfold bsbOk at h
  rw [Bool.and_eq_true] at h
  replace h := h.2
  induction xs with
  | nil => intro k c hk; simp [AS.vals] at hk
  | cons y xs ih =>
    rw [List.all_cons, Bool.and_eq_true] at h
    intro k c hk
    cases k with
    | succ k => exact ih h.2 hk
    | zero =>
      obtain rfl : s.val y = c := Option.some.inj hk
      have h1 := h.1
      split at h1
      · exact ⟨_, rfl⟩
      · cases h1
theorem bsb_noB {s : AS} {n : Nat} {xs : List Od} (h : bsbOk xs = true) : noB.noL n (s.vals xs) = true := by
  unfold bsbOk at h
  rw [Bool.and_eq_true] at h
  replace h := h.2
  induction xs with
  | nil => rfl
  | cons y xs ih =>
    rw [List.all_cons, Bool.and_eq_true] at h
    have h1 := h.1
    split at h1
    · rw [AS.vals, noB.noL, ih h.2]; rfl
    · cases h1
theorem vact_sound (h : St E x0 w0 pb nt x a w s) (hK : ∀ n, n < pb → E.ng ≤ x0.bx n) {q : Bool} {o : Oper} {k : VK} (hc : cOp E.P q o.op = some k) (hd : ∀ t, o.dst = some t → t < nt) {Q : AS → Prop} (hv : vact E s o.dst Q k) {QQ : Exit → Act → World → Prop} : o.wp E.P a w (Next2 E x0 w0 pb nt Q) QQ := by
  have done : ∀ {v : Value} {av : AV}, (execOp a.eval o).run E.P w = .ok (.value v) w → Rel x w0.heap.size v av → Q (s.putO o.dst av) → o.wp E.P a w (Next2 E x0 w0 pb nt Q) QQ := fun hr r hq => wpv hr ⟨x, _, hq, h.put hd r⟩
  obtain ⟨dst, op, type, pos, after, guard⟩ := o
  simp only at hc hd hv done
  cases op
  case move y =>
    obtain ⟨y', hy, e⟩ := Option.bind_eq_some_iff.1 hc
    obtain rfl := Option.some.inj e
    exact done rfl (relv h hy) hv
  case assign y =>
    obtain ⟨y', hy, e⟩ := Option.bind_eq_some_iff.1 hc
    obtain rfl := Option.some.inj e
    exact done rfl (relv h hy) hv
  case pick c y z =>
    obtain ⟨c', hcc, e⟩ := Option.bind_eq_some_iff.1 hc
    obtain ⟨y', hy, e⟩ := Option.bind_eq_some_iff.1 e
    obtain ⟨z', hz, e⟩ := Option.bind_eq_some_iff.1 e
    obtain rfl := Option.some.inj e
    obtain ⟨t, ht, hq⟩ := hv
    have e1 := litv h hcc ht
    cases t with
    | true => exact done (v := a.eval y) (by simp [execOp, e1, asBool]) (relv h hy) hq
    | false => exact done (v := a.eval z) (by simp [execOp, e1, asBool]) (relv h hz) hq
  case binOp op t y z u =>
    simp only [cOp] at hc
    cases hnil : nilC E.P op t z with
    | some neg =>
      rw [hnil] at hc
      obtain ⟨y', hy, e⟩ := Option.bind_eq_some_iff.1 hc
      obtain rfl := Option.some.inj e
      obtain ⟨m, zz, xs, h1, hq⟩ := hv
      have r := relv h hy
      rw [h1] at r
      obtain ⟨v, ha⟩ : ∃ v, a.eval y = v := ⟨_, rfl⟩
      rw [ha] at r
      unfold nilC at hnil
      split at hnil
      · split at hnil
        · rename_i hel
          obtain ⟨e0, he⟩ := Option.isSome_iff_exists.1 hel
          cases r with
          | sl _ _ _ _ d1 d2 d3 =>
            cases d1 with
            | sl A n cap _ _ _ b o f g1 g2 g3 g4 g5 g6 =>
              have heq : (Op.equal t (.slice A n cap) (.slice none 0 0)).run E.P w = .ok A.isNone w := by
                unfold Op.equal Op.maxDepth
                show (Op.equalIn (9999 + 1) t _ _).run E.P w = _
                unfold Op.equalIn
                rw [Sem.run_bind, run_underlying (elOf_spec he) w]
                cases A <;> rfl
              have hA : xs ≠ [] → A.isNone = false := fun hne => by rw [g3 hne]; rfl
              cases op <;> simp only at hnil <;> (try (cases hnil; done))
              all_goals obtain rfl := Option.some.inj hnil
              · refine done (v := .bool A.isNone) (v_run (by rw [ha]; simp [eqGuard, binOp, heq, Act.eval])) (.lit _ rfl) (hq _ hA)
              · refine done (v := .bool (!A.isNone)) (v_run (by rw [ha]; simp [eqGuard, binOp, heq, Act.eval])) (.lit _ rfl) (hq _ fun hne => by rw [hA hne]; rfl)
        · cases hnil
      · cases hnil
    | none =>
    rw [hnil] at hc
    obtain ⟨y', hy, e⟩ := Option.bind_eq_some_iff.1 hc
    obtain ⟨z', hz, e⟩ := Option.bind_eq_some_iff.1 e
    obtain rfl := Option.some.inj e
    obtain ⟨v, hv1, hq⟩ := hv
    have p1 : (if twoStr E.P t = true then 1 else if boolT E.P t = true then 2 else 0) = 1 → twoStr E.P t = true := by
      intro hh
      split at hh
      · assumption
      · split at hh <;> cases hh
    have p2 : (if twoStr E.P t = true then 1 else if boolT E.P t = true then 2 else 0) = 2 → boolT E.P t = true := by
      intro hh
      split at hh
      · cases hh
      · split at hh
        · assumption
        · cases hh
    obtain ⟨r1, r2⟩ := binV_run (P := E.P) p1 p2 (relv h hy) (relv h hz) hv1 y z w
    exact done (v_run r1) (.lit _ r2) hq
  case unOp op t y =>
    obtain ⟨y', hy, e⟩ := Option.bind_eq_some_iff.1 hc
    obtain rfl := Option.some.inj e
    obtain ⟨v, hv1, hq⟩ := hv
    obtain ⟨r1, r2⟩ := unV_run (P := E.P) (relv h hy) hv1 w
    exact done (v_run r1) (.lit _ r2) hq
  case index t y z =>
    simp only [cOp] at hc
    split at hc
    · rename_i hs
      obtain ⟨y', hy, e⟩ := Option.bind_eq_some_iff.1 hc
      obtain ⟨z', hz, e⟩ := Option.bind_eq_some_iff.1 e
      obtain rfl := Option.some.inj e
      obtain ⟨b, k, j, h1, h2, h3, h4, hq⟩ := hv
      have r := run_index_str (strT_spec hs) b k j h3 h4 w
      exact done (v_run (by rw [litv h hy h1, litv h hz h2]; exact r)) (.lit _ rfl) hq
    · cases hc
  case convert t1 t2 y =>
    obtain ⟨y', hy, e⟩ := Option.bind_eq_some_iff.1 hc
    split at e
    · rename_i k1 k2 hu1 hu2
      obtain rfl := Option.some.inj e
      obtain ⟨k', j, h1, hq⟩ := hv
      exact done (v_run (by rw [litv h hy h1]; simp [convert, run_underlying hu1, run_underlying hu2, Conv.intToInt])) (.lit _ rfl) hq
    · rename_i hu1 hu2
      obtain rfl := Option.some.inj e
      obtain ⟨b, h1, hq⟩ := hv
      exact done (v := .string b) (v_run (by rw [litv h hy h1]; simp [convert, run_underlying hu1, run_underlying hu2])) (.lit _ rfl) hq
    · rename_i e1 hu1 hu2
      split at e
      · rename_i hu3
        obtain rfl := Option.some.inj e
        obtain ⟨m, z, xs, l, h1, h2, h3, hq⟩ := hv
        have r := relv h hy
        rw [h1] at r
        obtain ⟨v, ha⟩ : ∃ v, a.eval y = v := ⟨_, rfl⟩
        rw [ha] at r
        cases r with
        | sl _ _ _ _ d1 d2 d3 =>
          obtain ⟨A, cap, b, o, news, n0, n1, n2, n3, n4, n5, n6, n7⟩ := sl_cells d1 (sz := 1) h2 (by omega)
          subst h3
          have hr := b2s_run (P := E.P) (A := A) (n := (l.map fun b : UInt8 => AV.lit (.int .u8 b.toNat)).length) (cap := cap) (l := l) (b := b) (o := o) (by simp) (fun hne => n4 (by simpa using hne)) w (fun k u hu => by
            obtain ⟨v, hv1, hv2⟩ := n7 k (.lit (.int .u8 u.toNat)) 0 (.lit (.int .u8 u.toNat)) (by rw [List.getElem?_map, hu]; rfl) rfl
            simp only [Nat.mul_one, Nat.add_zero] at hv1
            have := agree_cell h.ag (n5 k v hv1)
            rw [this]
            cases hv2
            rfl)
          exact done (v_run (by rw [ha, n0, run_convert_bytes_string w _ _ _ _ _ _ hu1 hu3 hu2]; exact hr)) (.lit _ rfl) hq
      · cases e
    · cases e
  case extract y i =>
    obtain ⟨y', hy, e⟩ := Option.bind_eq_some_iff.1 hc
    obtain rfl := Option.some.inj e
    obtain ⟨cs, c, h1, h2, hq⟩ := hv
    have r := relv h hy
    rw [h1] at r
    obtain ⟨v, ha⟩ : ∃ v, a.eval y = v := ⟨_, rfl⟩
    rw [ha] at r
    cases r with
    | tup vs _ hs hr =>
      have hlt : i < vs.size := by rw [hs]; exact (List.getElem?_eq_some_iff.1 h2).1
      exact done (v := vs[i]) (v_run (by rw [ha]; simp [Instr.extract, hlt])) (hr i _ c (Array.getElem?_eq_getElem hlt) h2) hq
  case makeFunc fn first cap =>
    simp only [cOp] at hc
    split at hc
    · rename_i f hf
      obtain ⟨l, hl, e⟩ := Option.bind_eq_some_iff.1 hc
      obtain rfl := Option.some.inj e
      obtain ⟨l1, l2⟩ := ods_rel h.env hl
      have hfirst : first = #[] := by cases first; simp at hf; rw [hf]
      subst hfirst
      refine done (v := .func (.func f) #[] (cap.map a.eval)) (by simp [execOp, Instr.makeFunc]) (.fn f _ _ (by simpa using l1) fun j v c hv1 hc1 => l2 j v c ?_ hc1) hv
      rw [Array.getElem?_map] at hv1
      simpa using hv1
    · cases hc
  case indexAddr t y z =>
    obtain ⟨e0, he, e⟩ := Option.bind_eq_some_iff.1 hc
    obtain ⟨sz, hsz, e⟩ := Option.bind_eq_some_iff.1 e
    obtain ⟨y', hy, e⟩ := Option.bind_eq_some_iff.1 e
    obtain ⟨z', hz, e⟩ := Option.bind_eq_some_iff.1 e
    obtain rfl := Option.some.inj e
    obtain ⟨k, j, h1, h2, h3⟩ := hv
    have r := relv h hy
    generalize hav : s.val y' = av at r h3
    obtain ⟨v, ha⟩ : ∃ v, a.eval y = v := ⟨_, rfl⟩
    rw [ha] at r
    cases r with
    | sl _ m z0 xs d1 d2 d3 =>
      obtain ⟨rfl, el, hel, hq⟩ := h3
      have data : ∀ {G : Gh}, RepD G x.nm v (.sl m z0 xs) → ∃ (b o n cap : Nat) (f : Nat → Value), v = .slice (some ⟨b, o, none⟩) n cap ∧ j < n ∧ (∀ (q : Nat) (c : AV), el.cells[q]? = some c → G b (o + j.toNat * z0 + q) = some (f q)) ∧ ∀ (q : Nat) (c : AV), el.cells[q]? = some c → RepD G x.nm (f q) c := by
        intro G hr
        cases hr with
        | sl A n cap _ _ _ b o f g1 g2 g3 g4 g5 g6 _ =>
          have hlt : j.toNat < xs.length := (List.getElem?_eq_some_iff.1 hel).1
          have hA := g3 (by rintro rfl; simp at hlt)
          exact ⟨b, o, n, cap, fun q => f j.toNat q, by rw [hA], by omega, fun q c hq => (g5 _ _ _ _ hel hq).1, fun q c hq => g6 _ _ _ _ hel hq⟩
      obtain ⟨b, o, n, cap, f, rfl, g2, g3, g4⟩ := data d1
      refine done (v_run (by rw [ha, litv h hz h1]; exact run_indexAt (elOf_spec he) hsz b o n cap k j h2 g2 w)) (.ep b _ m.fr _ f g3 g4 fun hf q c hq' => ?_) hq
      obtain ⟨b', o', n', cap', f', e1, _, g5, g6⟩ := data (d2 hf)
      injection e1 with e1 _ _
      injection e1 with e1
      injection e1 with e1 e2 _
      subst e1 e2
      have q1 := g3 q c hq'
      have q2 := from_le _ _ _ _ _ (g5 q c hq')
      rw [q1] at q2
      rw [Option.some.inj q2]
      exact g6 q c hq'
    | bs n z0 len cap hbz hcap =>
      obtain ⟨rfl, h4, hq⟩ := h3
      have := Rel.ptr (x := x) (base := w0.heap.size) n j.toNat 0
      rw [hbz, Nat.add_zero] at this
      exact done (v_run (by rw [ha, litv h hz h1]; exact run_indexAt (elOf_spec he) hsz (x.bx n) _ len cap k j h2 h4 w)) this hq
    | hs _ z0 xs hh =>
      obtain ⟨rfl, el, hel, hq⟩ := h3
      cases hh with
      | hs A n cap _ _ b o f g1 g2 g3 g4 g5 g6 g7 =>
        have hlt : j.toNat < xs.length := (List.getElem?_eq_some_iff.1 hel).1
        have hA := g3 (by rintro rfl; simp at hlt)
        subst hA
        exact done (v_run (by rw [ha, litv h hz h1]; exact run_indexAt (elOf_spec he) hsz b o n cap k j h2 (by omega) w)) (.hp b _ _ (fun q => f j.toNat q) (fun q c hq' e => g5 _ _ _ _ hel hq' e) (fun q c hq' e => ⟨g6 _ _ _ _ hel hq' e, g7 _ _ _ _ hel hq' e⟩)) hq
    | _ => exact h3.elim
  case fieldAddr t y f =>
    simp only [cOp] at hc
    split at hc
    · rename_i fs hu
      obtain ⟨fl, hf, e⟩ := Option.bind_eq_some_iff.1 hc
      obtain ⟨z, hz, e⟩ := Option.bind_eq_some_iff.1 e
      split at e
      · cases e
      · rename_i h0
        obtain ⟨y', hy, e⟩ := Option.bind_eq_some_iff.1 e
        obtain rfl := Option.some.inj e
        have r := relv h hy
        simp only [vact] at hv
        generalize hav : s.val y' = av at r hv
        obtain ⟨v, ha⟩ : ∃ v, a.eval y = v := ⟨_, rfl⟩
        rw [ha] at r
        cases r with
        | ep b o fr cs g g1 g2 g3 =>
          obtain ⟨h1, hq⟩ := hv
          refine done (v_run (by rw [ha]; exact run_fieldAt hu hf hz h0 b o w)) (.ep b _ fr _ (fun j => g (fl.offset + j)) (fun j c hj => ?_) (fun j c hj => ?_) fun hfr j c hj => ?_) hq
          all_goals rw [List.getElem?_drop] at hj
          · have := g1 _ c hj
            rwa [← Nat.add_assoc] at this
          · exact g2 _ c hj
          · exact g3 hfr _ c hj
        | ptr n i off =>
          have := Rel.ptr (x := x) (base := w0.heap.size) n i (off + fl.offset)
          rw [← Nat.add_assoc] at this
          exact done (v_run (by rw [ha]; exact run_fieldAt hu hf hz h0 _ _ w)) this hv
        | hp b o cs g g1 g2 =>
          obtain ⟨h1, hq⟩ := hv
          refine done (v_run (by rw [ha]; exact run_fieldAt hu hf hz h0 b o w)) (.hp b _ _ (fun j => g (fl.offset + j)) (fun j c hj e => ?_) (fun j c hj e => ?_)) hq
          all_goals rw [List.getElem?_drop] at hj
          · have := g1 _ c hj e
            rwa [← Nat.add_assoc] at this
          · have := g2 _ c hj e
            rwa [← Nat.add_assoc] at this
        | _ => exact hv.elim
    · cases hc
  case nilCheck y =>
    obtain ⟨y', hy, e⟩ := Option.bind_eq_some_iff.1 hc
    obtain rfl := Option.some.inj e
    have r := relv h hy
    simp only [vact] at hv
    generalize hav : s.val y' = av at r hv
    obtain ⟨v, ha⟩ : ∃ v, a.eval y = v := ⟨_, rfl⟩
    rw [ha] at r
    cases r with
    | ep b o fr cs g g1 g2 g3 =>
      obtain ⟨h1, hq⟩ := hv
      refine done (v := .pointer (some ⟨b, o, none⟩)) (by simp [execOp, ha]) ?_ hq
      simpa using Rel.ep (x := x) (base := w0.heap.size) b o fr cs g g1 g2 g3
    | ptr n i off => exact done (v := .pointer (some ⟨x.bx n, (x.bz n).2 + i * (x.bz n).1 + off, none⟩)) (by simp [execOp, ha]) (by simpa using Rel.ptr (x := x) (base := w0.heap.size) n i off) hv
    | hp b o cs g g1 g2 =>
      obtain ⟨h1, hq⟩ := hv
      exact done (v := .pointer (some ⟨b, o, none⟩)) (by simp [execOp, ha]) (by simpa using Rel.hp (x := x) (base := w0.heap.size) b o cs g g1 g2) hq
    | _ => exact hv.elim
  case load t y =>
    obtain ⟨g, hg, e⟩ := Option.bind_eq_some_iff.1 hc
    obtain ⟨sz, hsz, e⟩ := Option.bind_eq_some_iff.1 e
    obtain ⟨y', hy, e⟩ := Option.bind_eq_some_iff.1 e
    obtain rfl := Option.some.inj e
    have r := relv h hy
    simp only [vact] at hv
    generalize hav : s.val y' = av at r hv
    obtain ⟨v, ha⟩ : ∃ v, a.eval y = v := ⟨_, rfl⟩
    rw [ha] at r
    cases r with
    | ep b o fr cs f g1 g2 g3 =>
      have cell : ∀ j c, cs[j]? = some c → w.cell? ⟨b, o + j, none⟩ = some (f j) := fun j c hj => agree_cell h.ag (g1 j c hj)
      cases g with
      | true =>
        simp only [if_true] at hv
        obtain ⟨h1, hq⟩ := hv
        refine done (v_run (by rw [ha]; exact run_load_ag hg hsz b o f w fun j hj => cell j _ (List.getElem?_eq_getElem (by omega)))) (.agg _ _ (by simp [mkL_len]; omega) fun j u c hu hcc => ?_) hq
        rw [mkL_get] at hcc
        obtain ⟨c', hc', rfl⟩ := Option.map_eq_some_iff.1 hcc
        rw [List.getElem?_take] at hc'
        split at hc'
        · rename_i hj
          have : u = f j := by
            rw [List.getElem?_toArray, List.getElem?_map, List.getElem?_range hj] at hu
            exact (Option.some.inj hu).symm
          subst this
          exact rel_mkF (g2 j c' hc') fun hf => g3 hf j c' hc'
        · cases hc'
      | false =>
        simp only [Bool.false_eq_true, if_false] at hv
        obtain ⟨c, h1, hq⟩ := hv
        have := cell 0 c h1
        rw [Nat.add_zero] at this
        exact done (v_run (by rw [ha]; exact run_load_one hg b o _ w this)) (rel_mkF (g2 0 c h1) fun hf => g3 hf 0 c h1) hq
    | ptr n i off =>
      obtain ⟨l, el, hl, hel, hv⟩ := hv
      obtain ⟨⟨vals, ty, v1, v2, v3, v4⟩, _, _⟩ := h.bxs n l hl
      obtain ⟨v5, v6⟩ := v4 i el hel
      have cell : ∀ j c, el.cells[j]? = some c → ∃ u, w.cell? ⟨x.bx n, (x.bz n).2 + i * (x.bz n).1 + j, none⟩ = some u ∧ Rel x w0.heap.size u c := by
        intro j c hj
        obtain ⟨_, u, u1, _, u2⟩ := v6 j c hj
        exact ⟨u, by rw [cell_block v1]; exact u1, u2⟩
      cases g with
      | true =>
        simp only [if_true] at hv
        obtain ⟨h1, hq⟩ := hv
        have hrun := run_load_ag (P := E.P) hg hsz (x.bx n) ((x.bz n).2 + i * (x.bz n).1 + off) (fun j => ((w.cell? ⟨x.bx n, (x.bz n).2 + i * (x.bz n).1 + off + j, none⟩).getD undef)) w (fun j hj => by
          obtain ⟨u, hu, _⟩ := cell (off + j) (el.cells[off + j]'(by omega)) (List.getElem?_eq_getElem (by omega))
          rw [← Nat.add_assoc] at hu
          rw [hu]; rfl)
        refine done (v_run (by rw [ha]; exact hrun)) (.agg _ _ (by simp; omega) fun j u c hu hcc => ?_) hq
        · rw [List.getElem?_take] at hcc
          split at hcc
          · rename_i hj
            rw [List.getElem?_drop] at hcc
            obtain ⟨u', hu', hr⟩ := cell (off + j) c hcc
            rw [← Nat.add_assoc] at hu'
            have : u = u' := by
              rw [List.getElem?_toArray, List.getElem?_map, List.getElem?_range hj] at hu
              have := (Option.some.inj hu).symm
              simp only [hu', Option.getD_some] at this
              exact this
            rw [this]; exact hr
          · cases hcc
      | false =>
        simp only [Bool.false_eq_true, if_false] at hv
        obtain ⟨c, h1, hq⟩ := hv
        obtain ⟨u, hu, hr⟩ := cell off c h1
        exact done (v_run (by rw [ha]; exact run_load_one hg _ _ u w hu)) hr hq
    | hp b o cs f g1 g2 =>
      obtain ⟨rfl, zz, ys, h1, hq⟩ := hv
      obtain ⟨q1, q2⟩ := g2 0 (.hs zz ys) h1 (by intro e; cases e)
      have hu := agree_cell h.ag q1
      rw [Nat.add_zero] at hu
      generalize f 0 = u at q1 q2 hu
      refine done (v_run (by rw [ha]; exact run_load_one hg b o _ w hu)) ?_ hq
      cases q2 with
      | hs A n cap _ _ b2 o2 f2 k1 k2 k3 k4 k5 k6 k7 => exact .hs _ _ _ (.hs A n cap zz ys b2 o2 f2 k1 k2 k3 k4 k5 k6 k7)
    | _ => exact hv.elim
  case store t y z =>
    obtain ⟨sz, hsz, e⟩ := Option.bind_eq_some_iff.1 hc
    obtain ⟨y', hy, e⟩ := Option.bind_eq_some_iff.1 e
    obtain ⟨z', hz, e⟩ := Option.bind_eq_some_iff.1 e
    obtain rfl := Option.some.inj e
    rcases hv with hv | ⟨c, cs, h1, hun, rfl, h4, h5, hq⟩
    rotate_left
    · have r := relv h hy
      rw [h1] at r
      obtain ⟨v, ha⟩ : ∃ v, a.eval y = v := ⟨_, rfl⟩
      rw [ha] at r
      cases r with
      | hp b o _ f g1 g2 =>
        have hc0 : c = .un := by cases c <;> first | rfl | cases hun
        have hJ := g1 0 c rfl hc0
        rw [Nat.add_zero] at hJ
        obtain ⟨c1, c2, c3⟩ := rel_cells (relv h hz) h5
        obtain ⟨u, hu⟩ : ∃ u, (a.eval z).cells.toList = [u] := by
          have : (a.eval z).cells.toList.length = 1 := by simp [c1, h4]
          match hl : (a.eval z).cells.toList, this with
          | [u], _ => exact ⟨u, rfl⟩
        obtain ⟨vals, ty, b1, b2, hst⟩ := h.storeJ hJ u
        have hrun := run_storeAt (P := E.P) hsz b o (a.eval z) w vals ty b1 (by rw [c1]; exact h4) (by omega) c3
        unfold Oper.wp
        have : (execOp a.eval { dst := dst, op := Op.store t y z, type := type, pos := pos, after := after, guard := guard }).run E.P w = .ok .skip (w.setCells b o (a.eval z).cells.toList) := by
          simp [execOp, ha, hrun]
        rw [this, hu]
        exact ⟨x, _, hq, hst.put hd (.un _)⟩
    obtain ⟨n, i, off, h1, l, el, h2, h3, h4, h5, h6, h7, hq⟩ := hv
    have r := relv h hy
    rw [h1] at r
    obtain ⟨v, ha⟩ : ∃ v, a.eval y = v := ⟨_, rfl⟩
    rw [ha] at r
    cases r with
    | ptr =>
      obtain ⟨⟨vals, ty, b1, b2⟩, hst⟩ := h.store (o := off) h2 h3 (relv h hz) h7 (by omega) (by omega)
      obtain ⟨c1, c2, c3⟩ := rel_cells (relv h hz) h7
      have hrun := run_storeAt (P := E.P) hsz (x.bx n) ((x.bz n).2 + i * (x.bz n).1 + off) (a.eval z) w vals ty b1 (by rw [c1]; exact h5) (by rw [c1] at b2; omega) c3
      unfold Oper.wp
      have : (execOp a.eval { dst := dst, op := Op.store t y z, type := type, pos := pos, after := after, guard := guard }).run E.P w = .ok .skip (w.setCells (x.bx n) ((x.bz n).2 + i * (x.bz n).1 + off) (a.eval z).cells.toList) := by
        simp [execOp, ha, hrun]
      rw [this]
      exact ⟨x, _, hq, hst.put hd (.un _)⟩
  case box t y =>
    obtain ⟨sz, hsz, e⟩ := Option.bind_eq_some_iff.1 hc
    obtain ⟨y', hy, e⟩ := Option.bind_eq_some_iff.1 e
    obtain rfl := Option.some.inj e
    obtain ⟨tt, rfl, h1, h2, h3, h4, h5, hq⟩ := hv
    obtain ⟨c1, c2, c3⟩ := rel_cells (relv h hy) h3
    obtain ⟨x', hst⟩ := h.newBox (hd tt rfl) (l := [s.val y']) (sz := sz) (vals := (a.eval y).cells) (ty := t) (v := .pointer (some ⟨w.heap.size, 0, none⟩)) (av := .ptr (1000000000000 + tt) 0 0) h4 (by simp [noB.noL, h5]) h2 (by simp [c1, h1]) (fun i e he => by
      cases i with
      | zero =>
        obtain rfl : s.val y' = e := by simpa using he
        refine ⟨h1, fun j c hj => ?_⟩
        obtain ⟨u, u1, u2, u3⟩ := c2 j c hj
        exact ⟨List.all_eq_true.1 h3 c (List.mem_of_getElem? hj), u, by simpa using u1, u3, u2⟩
      | succ i => simp at he) (fun x' e1 e2 => by have := Rel.ptr (x := x') (base := w0.heap.size) (1000000000000 + tt) 0 0; simpa [e1, e2] using this)
    refine wpv (v := .pointer (some ⟨w.heap.size, 0, none⟩)) (w' := w.alloc (.cells (a.eval y).cells t)) ?_ ⟨x', _, hq, hst⟩
    simp only [execOp, Instr.box, newVar, newRow, Sem.run_bind, run_newObj, Result.andThen_ok, Sem.run_pure]
    rfl
  case alloc t =>
    obtain ⟨z, hz, e⟩ := Option.bind_eq_some_iff.1 hc
    obtain rfl := Option.some.inj e
    obtain ⟨tt, rfl, h1, h2, h3, h4, hq⟩ := hv
    have hr : Rel x w0.heap.size z (AV.ofV z) := ofV_rel _ _ _
    obtain ⟨c1, c2, c3⟩ := rel_cells hr h2
    unfold zeroOf at hz
    obtain ⟨ti, hi, hiz⟩ := Option.bind_eq_some_iff.1 hz
    have hzv : (zeroValue t).run E.P w = .ok z w := by simp [zeroValue, typeInfo, hi, hiz]
    obtain ⟨x', hst⟩ := h.newBox (hd tt rfl) (l := [AV.ofV z]) (sz := (AV.ofV z).cells.length) (vals := z.cells) (ty := t) (v := .pointer (some ⟨w.heap.size, 0, none⟩)) (av := .ptr (1000000000000 + tt) 0 0) h3 (by simp [noB.noL, h4]) h1 (by simp [c1]) (fun i e he => by
      cases i with
      | zero =>
        obtain rfl : AV.ofV z = e := by simpa using he
        refine ⟨rfl, fun j c hj => ?_⟩
        obtain ⟨u, u1, u2, u3⟩ := c2 j c hj
        exact ⟨List.all_eq_true.1 h2 c (List.mem_of_getElem? hj), u, by simpa using u1, u3, u2⟩
      | succ i => simp at he) (fun x' e1 e2 => by have := Rel.ptr (x := x') (base := w0.heap.size) (1000000000000 + tt) 0 0; simpa [e1, e2] using this)
    refine wpv (v := .pointer (some ⟨w.heap.size, 0, none⟩)) (w' := w.alloc (.cells z.cells t)) ?_ ⟨x', _, hq, hst⟩
    simp only [execOp, Instr.alloc, hzv, newVar, newRow, Sem.run_bind, run_newObj, Result.andThen_ok, Sem.run_pure]
    rfl
  case build t ps =>
    simp only [cOp] at hc
    split at hc
    · rename_i fs hu
      obtain ⟨z, hz, e⟩ := Option.bind_eq_some_iff.1 hc
      obtain ⟨pl, hpl, e⟩ := Option.bind_eq_some_iff.1 e
      obtain ⟨qs, hqs, e⟩ := Option.bind_eq_some_iff.1 e
      obtain rfl := Option.some.inj e
      obtain ⟨h1, cs, h2, hq⟩ := hv
      obtain ⟨z1, z2⟩ := ofV_cells x w0.heap.size z
      obtain ⟨vs', g1, g2, g3⟩ := bparts_spec h.env pl hqs h2 z1 z2 (fun p hp => List.all_eq_true.1 h1 p hp)
      exact done (v_run (run_build a.eval hu hz hpl g1 w)) (.agg _ _ g2 g3) hq
    · cases hc
  case slice t y lo hi mx =>
    simp only [cOp] at hc
    split at hc
    · cases hc
    · obtain ⟨y', hy, e⟩ := Option.bind_eq_some_iff.1 hc
      obtain ⟨lo', hlo, e⟩ := Option.bind_eq_some_iff.1 e
      obtain ⟨hi', hhi, e⟩ := Option.bind_eq_some_iff.1 e
      split at e
      · rename_i hu
        obtain rfl := Option.some.inj e
        obtain ⟨b, h1, l, hh, h2, hq⟩ := hv
        obtain ⟨q1, q2, q3⟩ := cut_spec (E := E) h.env hlo hhi h2 false b.size (Nat.le_refl _) w
        refine done (v := .string (b.extract l hh)) (v_run ?_) (.lit _ rfl) hq
        rw [litv h hy h1]
        simp [Instr.sliceAt, Instr.slice, run_underlying hu, q3]
      · rename_i e0 hu
        obtain ⟨sz, hsz, e⟩ := Option.bind_eq_some_iff.1 e
        obtain rfl := Option.some.inj e
        obtain ⟨m, z, xs, h1, h2, l, hh, h3, hq⟩ := hv
        have r := relv h hy
        rw [h1] at r
        obtain ⟨A0, cap0, ev, hc0⟩ : ∃ A cap, a.eval y = .slice A xs.length cap ∧ xs.length ≤ cap := by
          obtain ⟨v, ha⟩ : ∃ v, a.eval y = v := ⟨_, rfl⟩
          rw [ha] at r ⊢
          cases r with
          | sl _ _ _ _ d1 _ _ =>
            cases d1 with
            | sl A n cap _ _ _ b o f g1 g2 _ _ _ _ => exact ⟨A, cap, by rw [g1], by omega⟩
        obtain ⟨q1, q2, q3⟩ := cut_spec (E := E) h.env hlo hhi h3 true cap0 hc0 w
        have hfull : isNone hi' = true → hh = xs.length := by
          intro hn
          cases hi' with
          | some _ => cases hn
          | none =>
            unfold cutB at h3
            simp only at h3
            cases lo' with
            | none => simp only [Option.some.injEq, Prod.mk.injEq] at h3; exact h3.2.symm
            | some lo2 =>
              simp only at h3
              split at h3
              · split at h3
                · simp only [Option.some.injEq, Prod.mk.injEq] at h3; exact h3.2.symm
                · cases h3
              · cases h3
        obtain ⟨A, cap, e1, e2, e3⟩ := slice_rel (ap := if isNone hi' then noOw m.ap else .no) r q1 q2 (by
          cases hn : isNone hi' with
          | true => exact .inr ⟨by simp, hfull hn⟩
          | false => exact .inl (by simp))
        rw [ev] at e1
        injection e1 with e4 _ e5
        subst e4 e5
        have hlz : l * sz = l * z := by
          rcases h2 with rfl | rfl
          · rfl
          · have : l = 0 := by simp at q2; omega
            simp [this]
        refine done (v_run ?_) e3 hq
        rw [ev]
        simp [Instr.sliceAt, Instr.slice, run_underlying hu, q3, run_szOf hsz, hlz]
      · cases e
  case buildSlice t n ps =>
    obtain ⟨e0, he, e⟩ := Option.bind_eq_some_iff.1 hc
    obtain ⟨sz, hsz, e⟩ := Option.bind_eq_some_iff.1 e
    obtain ⟨xs, hxs, e⟩ := Option.bind_eq_some_iff.1 e
    split at e
    · rename_i hcond
      obtain ⟨c1, c2, c3, c4, c5⟩ := hcond
      split at e
      · rename_i hbb
        obtain rfl := Option.some.inj e
        obtain ⟨rfl, hbb⟩ := hbb
        obtain ⟨tt, rfl, _, h1, hq⟩ := hv
        obtain ⟨z, hz⟩ := Option.isSome_iff_exists.1 c5
        obtain ⟨l1, l2⟩ := sparts_spec h.env hxs
        have hn : ps.size = n := by rw [← c1, l1]; simp
        have lits : ∀ (k : Nat) (c : AV), (s.vals xs)[k]? = some c → ∃ u, c = .lit (.int .i64 u) ∧ ∃ v, (ps.toList.map fun p => a.eval p.2)[k]? = some v ∧ v = .int .i64 u := by
          intro k c hk
          obtain ⟨u, rfl⟩ := bsb_lit hbb hk
          have hlt : k < (ps.toList.map fun p => a.eval p.2).length := by
            have h3 := (List.getElem?_eq_some_iff.1 hk).1
            rw [vals_len, l1] at h3
            simpa using h3
          exact ⟨u, rfl, _, List.getElem?_eq_getElem hlt, (l2 k _ _ (List.getElem?_eq_getElem hlt) hk).lit_inv⟩
        have hsize : ∀ p ∈ ps.toList, (a.eval p.2).cells.size = 1 := by
          intro p hp
          obtain ⟨k, hk, rfl⟩ := List.getElem_of_mem hp
          have hlt : k < (s.vals xs).length := by rw [vals_len, l1]; exact hk
          obtain ⟨u, _, v, q4, rfl⟩ := lits k _ (List.getElem?_eq_getElem hlt)
          rw [List.getElem?_map, List.getElem?_eq_getElem hk] at q4
          have q5 : a.eval ps.toList[k].2 = .int .i64 u := Option.some.inj q4
          rw [q5]; rfl
        obtain ⟨cells, r1, r2, r3⟩ := run_buildSlice (P := E.P) (elOf_spec he) hsz hz hxs hn a.eval hsize (by omega) w
        obtain ⟨x', hst⟩ := h.newBox (hd tt rfl) (l := s.vals xs) (sz := 1) (vals := cells) (ty := e0) (v := .slice (some ⟨w.heap.size, 0, none⟩) n n) (av := .bs (1000000000000 + tt) 1 xs.length) h1 (bsb_noB hbb) (by omega) (by rw [r2, vals_len, c1]) (fun i c hi => by
          obtain ⟨u, rfl, v, q4, rfl⟩ := lits i c hi
          refine ⟨rfl, fun j d hj => ?_⟩
          cases j with
          | succ j => simp [AV.cells] at hj
          | zero =>
            obtain rfl : AV.lit (.int .i64 u) = d := Option.some.inj hj
            refine ⟨rfl, .int .i64 u, ?_, rfl, .lit _ rfl⟩
            rw [r3 i _ q4 0 (by omega)]; rfl) (fun x' e1 e2 => by
          have := Rel.bs (x := x') (base := w0.heap.size) (1000000000000 + tt) 1 xs.length n (by rw [e2]) (by omega)
          rw [e1, e2, c1] at this
          rw [c1]
          exact this)
        exact wpv (v_run r1) ⟨x', _, hq, hst⟩
      obtain rfl := Option.some.inj e
      obtain ⟨tt, rfl, h1, h2, hq⟩ := hv
      obtain ⟨z, hz⟩ := Option.isSome_iff_exists.1 c5
      obtain ⟨l1, l2⟩ := sparts_spec h.env hxs
      have hn : ps.size = n := by rw [← c1, l1]; simp
      have each : ∀ (k : Nat) (c : AV), (s.vals xs)[k]? = some c → c.cells.length = sz ∧ dat c = true ∧ c.cells.all okC = true ∧ ∃ v, (ps.toList.map fun p => a.eval p.2)[k]? = some v ∧ Rel x w0.heap.size v c := by
        intro k c hk
        have := List.all_eq_true.1 h2 c (List.mem_of_getElem? hk)
        simp only [Bool.and_eq_true, decide_eq_true_eq] at this
        have hlt : k < (ps.toList.map fun p => a.eval p.2).length := by
          have h3 := (List.getElem?_eq_some_iff.1 hk).1
          rw [vals_len, l1] at h3
          simpa using h3
        exact ⟨this.1.1, this.1.2, this.2, _, List.getElem?_eq_getElem hlt, l2 k _ c (List.getElem?_eq_getElem hlt) hk⟩
      have hsize : ∀ p ∈ ps.toList, (a.eval p.2).cells.size = sz := by
        intro p hp
        obtain ⟨k, hk, rfl⟩ := List.getElem_of_mem hp
        have hlt : k < (s.vals xs).length := by rw [vals_len, l1]; exact hk
        obtain ⟨q1, q2, q3, v, q4, q5⟩ := each k _ (List.getElem?_eq_getElem hlt)
        have : v = a.eval ps.toList[k].2 := by
          rw [List.getElem?_map, List.getElem?_eq_getElem hk] at q4
          exact (Option.some.inj q4).symm
        subst this
        rw [(rel_cells q5 q3).1]; exact q1
      have h24 : n * sz ≤ 16777216 := by
        have := Nat.mul_le_mul c2 c4
        omega
      obtain ⟨cells, r1, r2, r3⟩ := run_buildSlice (P := E.P) (elOf_spec he) hsz hz hxs hn a.eval hsize h24 w
      have hbase := h.fr.2.2.2.1
      have hnone : ∀ o', x.G w.heap.size o' = none := fun o' => agree_new h.ag o'
      have hle := row_le (G := x.G) (b := w.heap.size) (o := 0) (n := n * sz) (f := fun k => cells.getD k undef) (fun o' _ _ => hnone o')
      obtain ⟨ad1, ad2⟩ := adapts_new (c := 64 * tt) (t := tt) h (by omega) h1 { x with G := x.G.row w.heap.size 0 (fun k => cells.getD k undef) (n * sz), tl := fun c => if c = 64 * tt then some (w.heap.size, n * sz, n * sz) else x.tl c } hle ⟨fun _ _ h => h, fun _ _ h => h, fun _ => rfl, fun _ _ h => h⟩ (fun n => ⟨rfl, rfl⟩) (fun k hk => if_neg hk)
      have hrow := h.row (w' := w.alloc (.cells cells e0)) (b := w.heap.size) (o := 0) (n := n * sz) (c0 := 64 * tt) (e1 := n * sz) (t1 := n * sz) (f := fun k => cells.getD k undef) (s' := s.putO (some tt) .un)
        hbase (fun o' _ _ => hnone o') ⟨cells, e0, alloc_new, by rw [r2]; exact Nat.le_refl _, fun k hk => by
          rw [Nat.zero_add, Array.getElem?_eq_getElem (by omega)]
          simp [Array.getD, show k < cells.size by omega], fun o' v hv => by rw [hnone o'] at hv; cases hv⟩ (fun k _ hk => alloc_old hk) (by simp) ⟨rfl, rfl, rfl⟩ ad1 ad2 (fun m l hl => by have := box_lt h hl; omega) (fun o' ho' => by
          unfold Gh.row
          rw [if_neg (by omega)]
          exact hnone o') (fun c e' t' ht' => by
          obtain ⟨_, ⟨vals2, ty2, q2, _⟩, _⟩ := h.tl.1 c _ _ _ ht'
          have := (Array.getElem?_eq_some_iff.1 q2).1
          omega) (fun k hk hl => Array.getElem?_eq_none (by simp; omega)) (fun k hk => by have := h.no.ba k _ hk; omega) (fun T hT => by have := (h.rgb T _ hT).1; omega)
      have hcat := Rel.cat (x := x) (x' := { x with G := x.G.row w.heap.size 0 (fun k => cells.getD k undef) (n * sz), tl := fun c => if c = 64 * tt then some (w.heap.size, n * sz, n * sz) else x.tl c }) (base := w0.heap.size) (sz := sz) (b := w.heap.size) (o := 0) (cap := n) (c0 := 64 * tt) (fx := true) (fy := frA.frL (s.vals xs)) (xs := []) (ys := strip.stripL (s.vals xs)) (olds := []) (news := cells.toList) hle rfl hbase (by simp [stripL_len, vals_len, c1]) (by simp) (by simp) (fun k u hk => by
          have hlt := (List.getElem?_eq_some_iff.1 hk).1
          simp only [List.length_nil, Nat.zero_mul, Nat.add_zero]
          rw [row_at (by rw [← r2]; simpa using hlt)]
          simp only [Array.getElem?_toList] at hk
          simp [Array.getD_eq_getD_getElem?, hk]) (by simp) (fun u hu => by
          obtain ⟨p, hp, rfl⟩ := List.getElem_of_mem hu
          have hp' : p < cells.size := by simpa using hp
          have hd : p / sz < n := by rw [Nat.div_lt_iff_lt_mul c3, ← r2]; exact hp'
          have hlt : p / sz < (s.vals xs).length := by rw [vals_len, c1]; exact hd
          obtain ⟨q1, q2, q3, v, q4, q5⟩ := each _ _ (List.getElem?_eq_getElem hlt)
          have hr := r3 _ v q4 (p % sz) (Nat.mod_lt _ c3)
          rw [Nat.mul_comm, Nat.div_add_mod, Array.getElem?_eq_getElem hp'] at hr
          have := (rel_cells q5 q3).2.2
          exact this _ (by rw [Array.getElem_toList]; exact List.mem_of_getElem? (by rw [Array.getElem?_toList]; exact hr.symm))) (by simp) (fun i y hy => by
          rw [stripL_get] at hy
          obtain ⟨c, hc', rfl⟩ := Option.map_eq_some_iff.1 hy
          rw [strip_cells, stripL_len]
          exact (each i c hc').1) (by simp) (fun i y j c hy hcy => by
          rw [stripL_get] at hy
          obtain ⟨c', hc', rfl⟩ := Option.map_eq_some_iff.1 hy
          obtain ⟨q1, q2, q3, v, q4, q5⟩ := each i c' hc'
          obtain ⟨u, u1, u2, u3, u4⟩ := rep_cells q5 q2 q3 j c hcy
          have hj : j < sz := by
            have := (List.getElem?_eq_some_iff.1 hcy).1
            rw [strip_cells, stripL_len] at this
            omega
          refine ⟨u, by rw [Array.getElem?_toList, r3 i v q4 j hj]; exact u1, u2, fun hf => u3 (frL_get hf hc')⟩) (by simp [stripL_len, vals_len, c1])
      simp only [List.nil_append, Bool.true_and, List.length_nil, Nat.zero_add, stripL_len, vals_len, c1] at hcat
      have hfin := hrow.put hd hcat
      simp only [AS.putO, put_put] at hfin
      exact wpv (v := .slice (some ⟨w.heap.size, 0, none⟩) n n) (v_run r1) ⟨_, _, hq, hfin⟩
    · cases e
  case makeSlice t n c =>
    simp only [cOp] at hc
    split at hc
    · rename_i i1 i2
      split at hc
      · rename_i hij
        obtain ⟨hij, hilt⟩ := hij
        subst hij
        obtain ⟨e0, he, e⟩ := Option.bind_eq_some_iff.1 hc
        obtain ⟨ti, hi, e⟩ := Option.bind_eq_some_iff.1 e
        obtain ⟨z, hz, e⟩ := Option.bind_eq_some_iff.1 e
        split at e
        · rename_i hcond
          obtain rfl := Option.some.inj e
          obtain ⟨tt, k, j, rfl, h1, h2, h3, h4, h5, h6, h7, h8, hq⟩ := hv
          obtain ⟨z1, z2⟩ := ofV_cells x w0.heap.size z
          obtain ⟨jn, rfl⟩ := Int.eq_ofNat_of_zero_le h2
          simp only [Int.toNat_natCast] at hq
          have ev : a.eval (.tmp i1) = .int k jn := litv h (show od (.tmp i1) = some (.t i1) by simp only [od]; rw [if_pos hilt]) h1
          have hzv : (zeroValue e0).run E.P w = .ok z w := by simp [zeroValue, typeInfo, hi, hz]
          have hw : IntKind.i64.wrap (jn : Int) = jn := IntWalk.i64_in _ (by omega)
          have hbytes : ¬ ((ti.bytes : Int) * (jn : Int) > 2 ^ 48) := by rw [Int.mul_comm]; omega
          have hrun : (Instr.makeSlice t (a.eval (.tmp i1)) (a.eval (.tmp i1))).run E.P w = .ok (.slice (some ⟨w.heap.size, 0, none⟩) jn jn) (w.alloc (.cells ((Array.range (jn * ti.size)).map (z.cells[· % z.cells.size]!)) e0)) := by
            rw [ev]
            unfold Instr.makeSlice
            have hu := elOf_spec he
            have hneg : ¬ ((jn : Int) < 0) := by omega
            simp only [Sem.run_bind, run_underlying hu, Result.andThen_ok, asInt, asIntOf, Sem.run_pure, typeInfo, run_program, hi, hw]
            have hcond0 : (decide ((jn : Int) < 0) || decide ((ti.bytes : Int) * (jn : Int) > 2 ^ 48) || decide ((jn : Int) < 0) || decide ((jn : Int) > (jn : Int))) = false := by
              simp [hneg, hbytes]
              omega
            rw [hcond0]
            simp only [Bool.false_eq_true, if_false, Sem.run_bind, run_askRoom, Result.andThen_ok, run_szOf (show szOf E.P e0 = some ti.size by simp [szOf, hi]), Int.toNat_natCast]
            by_cases h0 : jn * ti.size = 0
            · rw [if_pos h0]
              have hr0 : Array.range (jn * ti.size) = #[] := by rw [h0]; rfl
              simp only [Sem.run_bind, Sem.run_pure, Result.andThen_ok, newRow, run_newObj, hr0, Array.map_empty]
              rfl
            · rw [if_neg h0]
              simp only [Sem.run_bind, Sem.run_pure, Result.andThen_ok, hzv, newRow, run_newObj]
              rfl
          have hbl : ∀ (i : Nat) (e : AV), (List.replicate jn (AV.ofV z))[i]? = some e → i < jn ∧ e = AV.ofV z := by
            intro i e he
            rw [List.getElem?_replicate] at he
            split at he
            · exact ⟨by assumption, (Option.some.inj he).symm⟩
            · cases he
          have hnob : ∀ k, noB.noL (1000000000000 + tt) (List.replicate k (AV.ofV z)) = true := by
            intro k
            induction k with
            | zero => rfl
            | succ k ih => simp [List.replicate_succ, noB.noL, h8, ih]
          obtain ⟨x', hst⟩ := h.newBox (hd tt rfl) (l := List.replicate jn (AV.ofV z)) (sz := ti.size) (vals := (Array.range (jn * ti.size)).map (z.cells[· % z.cells.size]!)) (ty := e0) (v := .slice (some ⟨w.heap.size, 0, none⟩) jn jn) (av := .bs (1000000000000 + tt) ti.size jn) h7 (hnob jn) hcond.2 (by simp) (fun i e he => by
            obtain ⟨hi2, rfl⟩ := hbl i e he
            refine ⟨h5, fun j c hj => ?_⟩
            have hjlt : j < ti.size := by rw [← h5]; exact (List.getElem?_eq_some_iff.1 hj).1
            have hjz : j < z.cells.size := by rw [z1, h5]; exact hjlt
            have hok : okC c = true := List.all_eq_true.1 h6 c (List.mem_of_getElem? hj)
            have hr := z2 j z.cells[j] c (Array.getElem?_eq_getElem hjz) hj
            refine ⟨hok, z.cells[j], ?_, rel_one hr hok, hr⟩
            have hlt : i * ti.size + j < jn * ti.size := by
              have : (i + 1) * ti.size ≤ jn * ti.size := Nat.mul_le_mul_right _ hi2
              rw [Nat.add_mul] at this
              omega
            have hmod : (i * ti.size + j) % z.cells.size = j := by
              rw [hcond.1, Nat.mul_comm, Nat.mul_add_mod, Nat.mod_eq_of_lt hjlt]
            rw [Array.getElem?_map, Array.getElem?_range, if_pos hlt]
            simp [hmod, hjz]) (fun x' e1 e2 => by have := Rel.bs (x := x') (base := w0.heap.size) (1000000000000 + tt) ti.size jn jn (by rw [e2]) (Nat.le_refl _); simpa [e1, e2] using this)
          exact wpv (v_run hrun) ⟨x', _, hq, hst⟩
        · cases e
      · cases hc
    · cases hc
  case call c =>
    simp only [cOp] at hc
    split at hc
    · -- len
      rename_i hcal
      split at hc
      · rename_i y hargs
        obtain ⟨t, ht, e⟩ := Option.bind_eq_some_iff.1 hc
        obtain ⟨y', hy, e⟩ := Option.bind_eq_some_iff.1 e
        have ha : c.args = #[y] := by cases hh : c.args; rw [hh] at hargs; simp at hargs; rw [hargs]
        have exec : ∀ {v : Value} {ty : Nat}, c.argTypes = #[ty] → (Builtin.len_ #[ty] type #[a.eval y]).run E.P w = .ok v w → (execOp a.eval { dst := dst, op := Op.call c, type := type, pos := pos, after := after, guard := guard }).run E.P w = .ok (.value v) w := by
          intro v ty hty hr
          rw [← hty] at hr
          simp [execOp, resolve, hcal, ha, invoke, builtin, hr]
        have lenrun : ∀ {v : Value}, (∀ args : Array Nat, args[0]? = some t → (Builtin.len_ args type #[a.eval y]).run E.P w = .ok v w) → (execOp a.eval { dst := dst, op := Op.call c, type := type, pos := pos, after := after, guard := guard }).run E.P w = .ok (.value v) w := by
          intro v hr
          have := hr c.argTypes ht
          simp [execOp, resolve, hcal, ha, invoke, builtin, this]
        split at e
        · rename_i hs
          obtain rfl := Option.some.inj e
          obtain ⟨n, h1, hq⟩ := hv
          have r := relv h hy
          generalize hav : s.val y' = av at r h1
          have hb : ∃ b : ByteArray, a.eval y = .string b ∧ (b.size : Int) = n := by
            cases av with
            | lit v =>
              cases v with
              | string b => exact ⟨b, r.lit_inv, Option.some.inj h1⟩
              | _ => cases h1
            | _ => cases h1
          obtain ⟨b, e1, rfl⟩ := hb
          refine done (v := .int .i64 b.size) (lenrun fun args hargs0 => ?_) (.lit _ rfl) hq
          rw [e1]
          simp [Builtin.len_, hargs0, run_underlying (strT_spec hs), goInt]
        · split at e
          · rename_i hs
            obtain rfl := Option.some.inj e
            obtain ⟨e0, he⟩ := Option.isSome_iff_exists.1 hs
            obtain ⟨n, h1, hq⟩ := hv
            have r := relv h hy
            generalize hav : s.val y' = av at r h1
            obtain ⟨v, hav2⟩ : ∃ v, a.eval y = v := ⟨_, rfl⟩
            rw [hav2] at r
            have hl : ∃ A n' c', v = .slice A n' c' ∧ (n' : Int) = n := by
              cases r with
              | sl _ _ _ _ d1 _ _ =>
                cases d1 with
                | sl A n' cap _ _ _ b o f g1 g2 _ _ _ _ => exact ⟨A, n', cap, rfl, by rw [g1]; exact Option.some.inj h1⟩
              | bs => exact ⟨_, _, _, rfl, Option.some.inj h1⟩
              | hs _ _ _ hh =>
                cases hh with
                | hs A n' cap _ _ b o f g1 _ _ _ _ _ _ => exact ⟨A, n', cap, rfl, by rw [g1]; exact Option.some.inj h1⟩
              | _ => cases h1
            obtain ⟨A, n', c', rfl, rfl⟩ := hl
            refine done (lenrun fun args hargs0 => ?_) (.lit _ rfl) hq
            rw [hav2]
            simp [Builtin.len_, hargs0, run_underlying (elOf_spec he), goInt]
          · cases e
      · cases hc
    · -- append
      rename_i hcal
      split at hc
      · rename_i y z hargs
        obtain ⟨t, ht, e⟩ := Option.bind_eq_some_iff.1 hc
        obtain ⟨t2, ht2, e⟩ := Option.bind_eq_some_iff.1 e
        obtain ⟨e0, he, e⟩ := Option.bind_eq_some_iff.1 e
        obtain ⟨ti, hi, e⟩ := Option.bind_eq_some_iff.1 e
        obtain ⟨zv, hz, e⟩ := Option.bind_eq_some_iff.1 e
        obtain ⟨y', hy, e⟩ := Option.bind_eq_some_iff.1 e
        obtain ⟨z', hzz, e⟩ := Option.bind_eq_some_iff.1 e
        split at e
        · rename_i hcond
          obtain rfl := Option.some.inj e
          have ha : c.args = #[y, z] := by cases hh : c.args; rw [hh] at hargs; simp at hargs; rw [hargs]
          obtain ⟨e2, he2⟩ := Option.isSome_iff_exists.1 hcond.2.2.2
          obtain ⟨m, zs, xs, h1, m2, z2, ys, h2, h3, h4, h5, hv⟩ := hv
          have ry := relv h hy
          have rz := relv h hzz
          rw [h1] at ry
          rw [h2] at rz
          have exec : ∀ {v : Value} {w' : World}, (Builtin.append_ #[t, t2] type #[a.eval y, a.eval z]).run E.P w = .ok v w' → (execOp a.eval { dst := dst, op := Op.call c, type := type, pos := pos, after := after, guard := guard }).run E.P w = .ok (.value v) w' := by
            intro v w' hr
            have : (Builtin.append_ c.argTypes type #[a.eval y, a.eval z]).run E.P w = .ok v w' := by
              rw [← hr]
              unfold Builtin.append_
              simp [ht, ht2]
            simp [execOp, resolve, hcal, ha, invoke, builtin, this]
          obtain ⟨vy, hvy⟩ : ∃ v, a.eval y = v := ⟨_, rfl⟩
          obtain ⟨vz, hvz⟩ : ∃ v, a.eval z = v := ⟨_, rfl⟩
          rw [hvy] at ry exec
          rw [hvz] at rz exec
          cases ry with
          | sl _ _ _ _ d1 d2 d3 =>
            cases rz with
            | sl _ _ _ _ g1 g2 g3 =>
              cases hm : m.ap with
              | no => rw [hm] at hv; exact hv.elim
              | id _ => rw [hm] at hv; exact hv.elim
              | nl =>
                rw [hm] at hv d3
                obtain ⟨tt, rfl, h6, hq⟩ := hv
                obtain ⟨v', w', x', r1, r2, r3⟩ := h.app (adapts_new (c := 64 * tt) h (by omega) h6) (ty := type) (elOf_spec he) (elOf_spec he2) hi hz hcond.1 hcond.2.1 hcond.2.2.1 d1 d2 h3 g1 g2 h4 (.inl d3) h5
                refine wpv (exec r1) ⟨x', _, hq, ?_⟩
                have := r2.put hd r3
                simp only [AS.putO, put_put] at this
                exact this
              | ow t => rw [hm] at hv; exact hv.elim
              | cl c0 =>
                rw [hm] at hv d3
                obtain ⟨rfl, hq⟩ := hv
                obtain ⟨v', w', x', r1, r2, r3⟩ := h.app (adapts_dem h c0) (ty := type) (elOf_spec he) (elOf_spec he2) hi hz hcond.1 hcond.2.1 hcond.2.2.1 d1 d2 h3 g1 g2 h4 d3 h5
                exact wpv (exec r1) ⟨x', _, hq, r2.put hd r3⟩
        · split at e
          · rename_i hcond
            obtain ⟨c1, c2, c3, c4⟩ := hcond
            obtain rfl := Option.some.inj e
            have ha : c.args = #[y, z] := by cases hh : c.args; rw [hh] at hargs; simp at hargs; rw [hargs]
            have hu2 : E.P.underlying t2 = some .string := by
              unfold strT at c4
              split at c4
              · assumption
              · cases c4
            obtain ⟨m, zs, xs, h1, b, h2, h3, h5, hv⟩ := hv
            have ry := relv h hy
            rw [h1] at ry
            have ez := litv h hzz h2
            have exec : ∀ {v : Value} {w' : World}, (Builtin.append_ #[t, t2] type #[a.eval y, a.eval z]).run E.P w = .ok v w' → (execOp a.eval { dst := dst, op := Op.call c, type := type, pos := pos, after := after, guard := guard }).run E.P w = .ok (.value v) w' := by
              intro v w' hr
              have : (Builtin.append_ c.argTypes type #[a.eval y, a.eval z]).run E.P w = .ok v w' := by
                rw [← hr]
                unfold Builtin.append_
                simp [ht, ht2]
              simp [execOp, resolve, hcal, ha, invoke, builtin, this]
            obtain ⟨vy, hvy⟩ : ∃ v, a.eval y = v := ⟨_, rfl⟩
            rw [hvy] at ry exec
            rw [ez] at exec
            cases ry with
            | sl _ _ _ _ d1 d2 d3 =>
              cases hm : m.ap with
              | no => rw [hm] at hv; exact hv.elim
              | id _ => rw [hm] at hv; exact hv.elim
              | nl =>
                rw [hm] at hv d3
                obtain ⟨tt, rfl, h6, hq⟩ := hv
                obtain ⟨v', w', x', r1, r2, r3⟩ := h.appS (adapts_new (c := 64 * tt) h (by omega) h6) (ty := type) (elOf_spec he) hu2 hi hz c1 c2 c3 d1 d2 h3 (.inl d3) h5
                refine wpv (exec r1) ⟨x', _, hq, ?_⟩
                have := r2.put hd r3
                simp only [AS.putO, put_put] at this
                exact this
              | ow t => rw [hm] at hv; exact hv.elim
              | cl c0 =>
                rw [hm] at hv d3
                obtain ⟨rfl, hq⟩ := hv
                obtain ⟨v', w', x', r1, r2, r3⟩ := h.appS (adapts_dem h c0) (ty := type) (elOf_spec he) hu2 hi hz c1 c2 c3 d1 d2 h3 (by rw [c2]; exact d3) h5
                exact wpv (exec r1) ⟨x', _, hq, r2.put hd r3⟩
          · cases e
      · cases hc
    · -- the least of two
      rename_i hcal
      split at hc
      · rename_i y z hargs
        obtain ⟨y', hy, e⟩ := Option.bind_eq_some_iff.1 hc
        obtain ⟨z', hz, e⟩ := Option.bind_eq_some_iff.1 e
        obtain rfl := Option.some.inj e
        obtain ⟨k, u, v, h1, h2, hq⟩ := hv
        have e1 := litv h hy h1
        have e2 := litv h hz h2
        have ha : c.args.map a.eval = #[a.eval y, a.eval z] := by
          apply Array.ext'
          simp [hargs]
        refine done (v := .int k (min u v)) ?_ (.lit _ rfl) hq
        have := Go.Lib.run_min_ints (P := E.P) w c.argTypes type k k u v
        simp [execOp, resolve, hcal, ha, invoke, builtin, e1, e2, this]
      · cases hc
    · -- a function
      rename_i f hcal
      split at hc
      · rename_i hf
        obtain ⟨l, hl, e⟩ := Option.bind_eq_some_iff.1 hc
        obtain rfl := Option.some.inj e
        obtain ⟨l1, l2⟩ := ods_rel h.env hl
        have hrun : (execOp a.eval { dst := dst, op := Op.call c, type := type, pos := pos, after := after, guard := guard }).run E.P w = .ok (.enter f (c.args.map a.eval)) w := by
          have := run_callFunc hf (c.args.map a.eval) w
          simp [execOp, resolve, hcal, Act.eval, Deferred.ofValue, invoke]
          exact this
        unfold Oper.wp
        rw [hrun]
        refine (call_run2 h hK hd (by simpa using l1) (fun i v cc hv1 hc1 => l2 i v cc (by rw [Array.getElem?_map] at hv1; simpa using hv1) hc1) hv).mono ?_
        rintro e w' he
        cases e with
        | returned v => exact he
        | panicked _ => exact he.elim
        | outgrown => exact he.elim
      · cases hc
    · -- a function's value
      rename_i y _ hcal
      obtain ⟨y', hy, e⟩ := Option.bind_eq_some_iff.1 hc
      obtain ⟨l, hl, e⟩ := Option.bind_eq_some_iff.1 e
      obtain rfl := Option.some.inj e
      obtain ⟨f, cs, h1, h2, hv⟩ := hv
      obtain ⟨l1, l2⟩ := ods_rel h.env hl
      have r := relv h hy
      rw [h1] at r
      obtain ⟨v, ha⟩ : ∃ v, a.eval y = v := ⟨_, rfl⟩
      rw [ha] at r
      cases r with
      | fn _ vs _ hs hr =>
        have hrun : (execOp a.eval { dst := dst, op := Op.call c, type := type, pos := pos, after := after, guard := guard }).run E.P w = .ok (.enter f (c.args.map a.eval ++ vs)) w := by
          have := run_callFunc h2 (c.args.map a.eval ++ vs) w
          simp [execOp, resolve, hcal, ha, Deferred.ofValue, invoke]
          exact this
        unfold Oper.wp
        rw [hrun]
        have hlen : (c.args.map a.eval).size = (s.vals l).length := by simpa using l1
        refine (call_run2 h hK hd (by rw [Array.size_append, hlen, hs, List.length_append]) (fun i v cc hv1 hc1 => ?_) hv).mono ?_
        · by_cases hi : i < (s.vals l).length
          · rw [Array.getElem?_append_left (by omega)] at hv1
            rw [List.getElem?_append_left hi] at hc1
            exact l2 i v cc (by rw [Array.getElem?_map] at hv1; simpa using hv1) hc1
          · rw [Array.getElem?_append_right (by omega), hlen] at hv1
            rw [List.getElem?_append_right (by omega)] at hc1
            exact hr _ v cc hv1 hc1
        · rintro e w' he
          cases e with
          | returned v => exact he
          | panicked _ => exact he.elim
          | outgrown => exact he.elim
    · cases hc
  all_goals cases hc
end
end Go.Proofs.YticockdhfglolaaGreatDoor.Vm
/- An abstract machine over values: regions in the order of the text, code, functions. -/
namespace Go.Proofs.YticockdhfglolaaGreatDoor.Vm
open Go Go.RowKit
set_option linter.unusedVariables false
set_option linter.unusedSimpArgs false
/-- An operation as it was read off. -/
structure IsOp (P : Program) (q : Bool) (nt : Nat) (ops : Array Oper) (o : Oper) (vo : VO) : Prop where
  k : cOp P q o.op = some vo.k
  d : vo.d = o.dst
  nt : ∀ t, o.dst = some t → t < nt
  g : match o.guard with
    | none => vo.g = none
    | some (j, w) => ∃ t, t < 1000000000000 ∧ (ops[j]?).bind (·.dst) = some t ∧ vo.g = some (t, w)
theorem cReg_spec {P : Program} {q : Bool} {nt : Nat} {ops : Array Oper} : ∀ {l : List Oper} {os : List VO}, cReg P q nt ops l = some os → os.length = l.length ∧ ∀ (i : Nat) (o : Oper) (vo : VO), l[i]? = some o → os[i]? = some vo → IsOp P q nt ops o vo
  | [], os, h => by obtain rfl := Option.some.inj h; simp
  | o :: l, os, h => by
    simp only [cReg] at h
    obtain ⟨k, hk, h⟩ := Option.bind_eq_some_iff.1 h
    obtain ⟨r, hr, h⟩ := Option.bind_eq_some_iff.1 h
    obtain ⟨i1, i2⟩ := cReg_spec hr
    split at h
    · rename_i hd
      have hnt : ∀ t, o.dst = some t → t < nt := by
        intro t ht
        rw [ht] at hd
        exact of_decide_eq_true hd
      split at h
      · rename_i hg
        obtain rfl := Option.some.inj h
        refine ⟨by simp [i1], fun i o' vo ho hvo => ?_⟩
        cases i with
        | zero =>
          simp at ho hvo
          subst ho hvo
          exact ⟨hk, rfl, hnt, by rw [hg]⟩
        | succ i => exact i2 i o' vo (by simpa using ho) (by simpa using hvo)
      · rename_i j w hg
        split at h
        · rename_i t ht
          split at h
          rotate_left
          · cases h
          rename_i htl
          obtain rfl := Option.some.inj h
          refine ⟨by simp [i1], fun i o' vo ho hvo => ?_⟩
          cases i with
          | zero =>
            simp at ho hvo
            subst ho hvo
            exact ⟨hk, rfl, hnt, by rw [hg]; exact ⟨t, htl, ht, rfl⟩⟩
          | succ i => exact i2 i o' vo (by simpa using ho) (by simpa using hvo)
        · cases h
    · cases h
section
variable {E : EnvK} {x0 x : X} {w0 w : World} {pb nt : Nat} {a : Act} {s : AS}
theorem vop_sound (h : St E x0 w0 pb nt x a w s) (hK : ∀ n, n < pb → E.ng ≤ x0.bx n) {q : Bool} {ops : Array Oper} {i : Nat} {o : Oper} {vo : VO} (ho : ops[i]? = some o) (his : IsOp E.P q nt ops o vo) {Q : AS → Prop} (hv : vop E vo s Q) {QQ : Exit → Act → World → Prop} : wpOp E.P ops QQ i (Next2 E x0 w0 pb nt Q) a w := by
  unfold wpOp
  rw [ho]
  simp only
  obtain ⟨hk, hd, hnt, hg⟩ := his
  have act : vact E s vo.d Q vo.k → o.wp E.P a w (Next2 E x0 w0 pb nt Q) QQ := fun hv => vact_sound h hK hk hnt (by rw [← hd]; exact hv)
  unfold vop at hv
  cases hgd : o.guard with
  | none =>
    rw [hgd] at hg
    simp only at hg
    rw [hg] at hv
    have : Region.wanted o (yielded ops a.tmps) = true := by simp [Region.wanted, hgd]
    rw [if_pos this]
    exact .inl (act hv)
  | some p =>
    obtain ⟨j, wt⟩ := p
    rw [hgd] at hg
    obtain ⟨t, htl, ht, hg⟩ := hg
    rw [hg] at hv
    obtain ⟨b, hb, hv⟩ := hv
    have hr := h.env t
    unfold rd at hr
    rw [if_pos htl] at hr
    have hy : yielded ops a.tmps j = b := by
      cases hgt : s.get t <;> rw [hgt] at hb hr <;> simp only [gOf, reduceCtorEq] at hb
      · rename_i v
        cases v <;> simp only [gOf, reduceCtorEq] at hb
        rename_i b'
        obtain rfl := Option.some.inj hb
        have hval := hr.lit_inv
        have htm : a.tmps[t]? = some (.bool b') := by
          rw [Array.getD_eq_getD_getElem?] at hval
          cases hh : a.tmps[t]? with
          | none => rw [hh] at hval; cases hval
          | some v => rw [hh] at hval; simp at hval; rw [hval]
        unfold yielded; rw [ht]; simp [htm]
      · rename_i cs
        cases cs <;> simp only [gOf, reduceCtorEq] at hb
        obtain rfl := Option.some.inj hb
        have hval : ∃ vs : Array Value, a.tmps.getD t undef = .tuple vs := by
          generalize hh : a.tmps.getD t undef = v at hr
          cases hr with
          | tup vs cs _ _ => exact ⟨vs, rfl⟩
        obtain ⟨vs, hval⟩ := hval
        unfold yielded; rw [ht]
        rw [Array.getD_eq_getD_getElem?] at hval
        cases hh : a.tmps[t]? with
        | none => simp [hh]
        | some v => rw [hh] at hval; simp at hval; simp [hh, hval]
    by_cases hbw : b = some wt
    · rw [if_pos hbw] at hv
      have : Region.wanted o (yielded ops a.tmps) = true := by simp [Region.wanted, hgd, hy, hbw]
      rw [if_pos this]
      exact .inl (act hv)
    · rw [if_neg hbw] at hv
      have : ¬ (Region.wanted o (yielded ops a.tmps) = true) := by simp [Region.wanted, hgd, hy, hbw]
      rw [if_neg this]
      exact ⟨x, _, hv, by rw [hd]; exact h.put hnt (.tup #[] [] rfl (by simp))⟩
/-- The ends of a piece of code, as the abstract ones. -/
def CQ (E : EnvK) (x0 : X) (w0 : World) (pb nt : Nat) (Q : Ex → AS → Prop) : Exit → Act → World → Prop
  | .normal, a, w => Next2 E x0 w0 pb nt (Q .normal) a w
  | .ret, a, w => Next2 E x0 w0 pb nt (Q .ret) a w
  | .exit n, a, w => Next2 E x0 w0 pb nt (Q (.exit n)) a w
  | _, _, _ => False
theorem vops_sound (hK : ∀ n, n < pb → E.ng ≤ x0.bx n) {q : Bool} {ops : Array Oper} {Q : AS → Prop} {QQ : Exit → Act → World → Prop} (hQ : ∀ a w, Next2 E x0 w0 pb nt Q a w → QQ .normal a w) (hi : ∀ (i : Nat) (o : Oper) (vo : VO) (os : List VO), True) :
    ∀ (l : List Nat) (os : List VO) (x : X) (a : Act) (w : World) (s : AS), os.length = l.length → (∀ (k i : Nat) (vo : VO), l[k]? = some i → os[k]? = some vo → ∃ o, ops[i]? = some o ∧ IsOp E.P q nt ops o vo) → St E x0 w0 pb nt x a w s → vops E os s Q → wpOps E.P ops QQ l a w
  | [], os, x, a, w, s, hlen, _, h, hv => by
    have : os = [] := List.eq_nil_of_length_eq_zero (by simpa using hlen)
    subst this
    exact hQ a w ⟨x, s, hv, h⟩
  | i :: l, os, x, a, w, s, hlen, hall, h, hv => by
    cases os with
    | nil => simp at hlen
    | cons vo os =>
      obtain ⟨o, ho, his⟩ := hall 0 i vo rfl rfl
      rw [wpOps_cons]
      refine wpOp_mono (fun a' w' hn => ?_) (vop_sound h hK ho his hv)
      obtain ⟨x', s', hv', h'⟩ := hn
      exact vops_sound hK hQ hi l os x' a' w' s' (by simpa using hlen) (fun k i' vo' h1 h2 => hall (k + 1) i' vo' (by simpa using h1) (by simpa using h2)) h' hv'
theorem drop1_look (t u : Nat) : ∀ (l : List (Nat × AV)), look (drop1 t l) u = none ∨ look (drop1 t l) u = look l u
  | [] => .inl rfl
  | (k, v) :: l => by
    simp only [drop1]
    split
    · rename_i htk
      subst htk
      simp only [look]
      by_cases hu : u = t
      · subst hu
        rw [if_pos rfl]
        have : ∀ l : List (Nat × AV), look (drop1 u l) u = none := by
          intro l
          induction l with
          | nil => rfl
          | cons p l ih =>
            obtain ⟨k, v⟩ := p
            simp only [drop1]
            split
            · exact ih
            · simp only [look]; rw [if_neg (by assumption)]; exact ih
        exact .inl (this l)
      · rw [if_neg hu]
        exact drop1_look t u l
    · simp only [look]
      split
      · exact .inr rfl
      · exact drop1_look t u l
theorem drops_look : ∀ (ts : List Nat) (l : List (Nat × AV)) (u : Nat), look (drops ts l) u = none ∨ look (drops ts l) u = look l u
  | [], l, u => .inr rfl
  | t :: ts, l, u => by
    simp only [drops]
    rcases drops_look ts (drop1 t l) u with h | h
    · exact .inl h
    · rcases drop1_look t u l with h2 | h2
      · exact .inl (h.trans h2)
      · exact .inr (h.trans h2)
theorem wkV_rel {v : Value} {b c : AV} (h : wkV b c) (r : Rel x w0.heap.size v c) : Rel x w0.heap.size v b := by
  rcases h with rfl | rfl | ⟨m, m', z, z', xs, rfl, rfl, h1, h2⟩
  · exact r
  · exact .un _
  · cases r with
    | sl _ _ _ _ d1 d2 d3 =>
      have hz : z' = z ∨ xs = [] := by
        rcases h2 with h2 | h2 | h2 | ⟨c, h2⟩
        · exact h2.2
        · exact .inl h2.2
        · exact .inr h2.2.2
        · exact .inr h2.2.2
      have hmi : ∀ k, m'.ap = .id k → m.ap = .id k := by
        intro k hk
        rcases h2 with h2 | h2 | h2 | ⟨c, h2⟩
        · rw [h2.1] at hk; cases hk
        · rw [← h2.1]; exact hk
        · rw [h2.1] at hk; cases hk
        · rw [h2.1] at hk; cases hk
      have mk : ∀ {G : Gh}, RepD G x.nm v (.sl m z xs) → RepD G x.nm v (.sl m' z' xs) := by
        intro G hr
        rcases hz with rfl | rfl
        · exact hr.mark hmi
        · cases hr with
          | sl A n cap _ _ _ b o f g1 g2 g3 g4 g5 g6 _ => exact .sl A n cap m' z' [] b o f g1 g2 g3 (by simp) (by simp) (by simp) (fun _ _ h => absurd rfl h)
      refine .sl _ _ _ _ (mk d1) (fun hf => mk (d2 (h1 hf))) ?_
      rcases h2 with h2 | h2 | h2 | ⟨c, h2⟩
      · rw [h2.1]; trivial
      · rw [h2.1, h2.2]; exact d3
      · rw [h2.1]; rw [h2.2.1] at d3; exact d3
      · rw [h2.1]; rw [h2.2.1] at d3; exact .inl d3
theorem St.drops (h : St E x0 w0 pb nt x a w s) (ts : List Nat) : St E x0 w0 pb nt x a w ⟨drops ts s.env, s.bxs⟩ :=
  { h with env := fun u => (by
      have := h.env u
      unfold AS.get at this ⊢
      rcases drops_look ts s.env u with e | e
      · simp only [e]; exact .un _
      · simp only [e]; exact this) }
end
end Go.Proofs.YticockdhfglolaaGreatDoor.Vm
/- An abstract machine over values: code and functions. -/
namespace Go.Proofs.YticockdhfglolaaGreatDoor.Vm
open Go Go.RowKit
set_option linter.unusedVariables false
set_option linter.unusedSimpArgs false
theorem look_filter (n : Nat) : ∀ (l : List (Nat × List AV)) (m : Nat), look (l.filter fun p => p.1 != n) m = if m = n then none else look l m
  | [], m => by simp [look]
  | (k, v) :: l, m => by
    by_cases hk : k = n
    · subst hk
      rw [List.filter_cons_of_neg (by simp), look_filter k l m]
      simp only [look]
      by_cases hm : m = k
      · rw [if_pos hm, if_pos hm]
      · rw [if_neg hm, if_neg hm, if_neg hm]
    · rw [List.filter_cons_of_pos (by simpa using hk)]
      simp only [look]
      by_cases hm : m = k
      · rw [if_pos hm, if_pos hm, if_neg (by omega)]
      · rw [if_neg hm, if_neg hm, look_filter n l m]
section
variable {E : EnvK} {x0 x : X} {w0 w : World} {pb nt : Nat} {a : Act} {s : AS}
/-- Cells that stay as they are from now on. -/
theorem St.row0 (h : St E x0 w0 pb nt x a w s) {b o n : Nat} {f : Nat → Value} (hb : w0.heap.size ≤ b) (hnone : ∀ o', x.G b o' = none) (hblk : ∃ vals ty, w.heap[b]? = some (.cells vals ty (0, 0)) ∧ ∀ k, k < n → vals[o + k]? = some (f k)) (hnob : ∀ m l, look s.bxs m = some l → x.bx m ≠ b) (htl : ∀ c e t, x.tl c ≠ some (b, e, t)) :
    St E x0 w0 pb nt { x with G := x.G.row b o f n } a w s := by
  have hG : ∀ b' o', b' ≠ b → (x.G.row b o f n) b' o' = x.G b' o' := by intro b' o' hne; unfold Gh.row; rw [if_neg (fun e => hne e.1)]
  have hGle := row_le (G := x.G) (b := b) (o := o) (n := n) (f := f) (fun o' _ _ => hnone o')
  obtain ⟨vals, ty, v1, v3⟩ := hblk
  refine { h with env := fun u => (h.env u).mono hGle, ag := ?_, g1 := fun b' o' v hv => hGle _ _ _ (h.g1 b' o' v hv), g2 := ?_, bxs := ?_, tl := ?_, uf := ?_, no := ⟨h.no.ka, h.no.fa, h.no.ia, h.no.ba, h.no.ta, h.no.xa, h.no.ra, h.no.qa, h.no.za⟩ }
  · intro b' o' v hv
    by_cases hbb : b' = b
    · subst hbb
      refine ⟨vals, ty, (0, 0), v1, ?_⟩
      change (x.G.row b' o f n) b' o' = some v at hv
      unfold Gh.row at hv
      split at hv
      · rename_i hc
        obtain rfl := Option.some.inj hv
        have := v3 (o' - o) (by omega)
        rwa [show o + (o' - o) = o' by omega] at this
      · rw [hnone o'] at hv; cases hv
    · exact h.ag b' o' v (by rw [← hG b' o' hbb]; exact hv)
  · intro b' o' v hv hlt
    have hbb : b' ≠ b := by omega
    exact h.g2 b' o' v (by rw [← hG b' o' hbb]; exact hv) hlt
  · intro m l hm
    obtain ⟨g1, g2, g3⟩ := h.bxs m l hm
    exact ⟨BoxAt.up (x := x) (x' := { x with G := x.G.row b o f n }) g1 hGle ⟨fun _ _ h => h, fun _ _ h => h, fun _ => rfl, fun _ _ h => h⟩ rfl rfl (fun _ _ => ⟨rfl, rfl⟩) (fun _ _ _ _ => rfl), g2, fun o' => (hG _ _ (hnob m l hm)).trans (g3 o')⟩
  · refine ⟨fun c b' e t ht => ?_, h.tl.2⟩
    obtain ⟨t1, t2, t3⟩ := h.tl.1 c b' e t ht
    have hbb : b' ≠ b := by rintro rfl; exact htl c e t ht
    exact ⟨t1, t2, fun o' ho' => (hG _ _ hbb).trans (t3 o' ho')⟩
  · intro k o' u vs t fz hk hg hh
    by_cases hkb : k = b
    · subst hkb
      rw [v1] at hh
      injection hh with hh; injection hh with _ _ e3; exact e3.symm
    · exact h.uf k o' u vs t fz hk ((hG k o' hkb).symm.trans hg) hh
theorem frUL_get : ∀ (cs : List AV) (j : Nat), (frU.frUL cs)[j]? = (cs[j]?).map frU
  | [], j => by simp [frU.frUL]
  | c :: cs, 0 => by simp [frU.frUL]
  | c :: cs, j + 1 => by simpa [frU.frUL] using frUL_get cs j
theorem frUL_len : ∀ (cs : List AV), (frU.frUL cs).length = cs.length
  | [] => rfl
  | c :: cs => by simp [frU.frUL, frUL_len cs]
theorem frU_cells (e : AV) : (frU e).cells = frU.frUL e.cells := by
  cases e with
  | sl m sz xs =>
    obtain ⟨ap, fr⟩ := m
    cases ap <;> simp [frU, frU.frUL, AV.cells]
  | _ => simp [frU, frU.frUL, AV.cells]
theorem frU_okC (e : AV) : okC (frU e) = okC e := by
  cases e with
  | sl m sz xs =>
    obtain ⟨ap, fr⟩ := m
    cases ap <;> rfl
  | _ => rfl
theorem rel_frU {x : X} {base : Nat} (ht : ∀ c b e t, x.tl c = some (b, e, t) → base ≤ b) {v : Value} {a : AV} (r : Rel x base v a) : Rel x base v (frU a) := by
  induction r with
  | un v => exact .un v
  | lit v h => exact .lit v h
  | sl v m sz xs h1 h2 h3 =>
    obtain ⟨ap, fr⟩ := m
    cases ap with
    | no => exact .sl v _ sz xs h1 h2 h3
    | nl => exact .sl v _ sz xs h1 h2 h3
    | ow k => exact .sl v _ sz xs h1 h2 h3
    | id k => exact .sl v _ sz xs h1 h2 h3
    | cl c =>
      refine .sl v _ sz xs (h1.mark (by simp)) (fun hf => ?_) h3
      simp only [Bool.or_eq_true] at hf
      rcases hf with hf | hf
      · exact (h2 hf).mark (by simp)
      · cases h1 with
        | sl A n cap _ _ _ b o f g1 g2 g3 g4 g5 g6 _ =>
          refine .sl A n cap _ sz xs b o f g1 g2 g3 g4 (fun i y j c' hy hc => ?_) (fun i y j c' hy hc => ?_) (by simp)
          · obtain ⟨q1, q2⟩ := g5 i y j c' hy hc
            refine ⟨?_, q2⟩
            unfold Gh.from
            rw [if_pos ?_]
            · exact q1
            · have hne : xs ≠ [] := by rintro rfl; simp at hy
              have hA := g3 hne
              subst hA
              rcases h3 with ⟨A', e⟩ | ⟨b', o', n', cap', e, ht'⟩
              · injection e with _ e2 _
                exact absurd (List.eq_nil_of_length_eq_zero (by omega)) hne
              · injection e with e1 _ _
                injection e1 with e1
                injection e1 with e1 _ _
                rw [e1]; exact ht _ _ _ _ ht'
          · have hl := List.all_eq_true.1 (List.all_eq_true.1 hf y (List.mem_of_getElem? hy)) c' (List.mem_of_getElem? hc)
            have := g6 i y j c' hy hc
            cases c' with
            | lit u => generalize f i j = q at this; cases this with | lit _ h => exact .lit _ h
            | _ => cases hl
  | agg vs cs hs _ ih =>
    refine .agg _ _ (by rw [frUL_len]; exact hs) fun j v d hv hd => ?_
    rw [frUL_get] at hd
    obtain ⟨e, he, rfl⟩ := Option.map_eq_some_iff.1 hd
    exact ih j v e hv he
  | tup vs cs hs _ ih =>
    refine .tup _ _ (by rw [frUL_len]; exact hs) fun j v d hv hd => ?_
    rw [frUL_get] at hd
    obtain ⟨e, he, rfl⟩ := Option.map_eq_some_iff.1 hd
    exact ih j v e hv he
  | ptr n i off => exact .ptr n i off
  | ep b o fr cs f h1 h2 h3 => exact .ep b o fr cs f h1 h2 h3
  | fn f vs cs hs hh ih => exact .fn f vs cs hs hh
  | bs n sz len cap h hl => exact .bs n sz len cap h hl
  | hs v sz xs h => exact .hs v sz xs h
  | hp b o cs f h1 h2 => exact .hp b o cs f h1 h2
theorem namL_get (c k : Nat) : ∀ (cs : List AV) (j : Nat), (nam.namL c k cs)[j]? = (cs[j]?).map (nam c k)
  | [], j => by simp [nam.namL]
  | x :: cs, 0 => by simp [nam.namL]
  | x :: cs, j + 1 => by simp [nam.namL, namL_get c k cs j]
theorem namL_len (c k : Nat) : ∀ (cs : List AV), (nam.namL c k cs).length = cs.length
  | [] => rfl
  | x :: cs => by simp [nam.namL, namL_len c k cs]
theorem nam_cells (c k : Nat) (x : AV) : (nam c k x).cells = nam.namL c k x.cells := by
  cases x with
  | sl m sz xs =>
    simp only [nam]
    cases hm : m.ap with
    | cl d => by_cases hk : d = c <;> simp [AV.cells, nam.namL, nam, hm, hk]
    | _ => simp [AV.cells, nam.namL, nam, hm]
  | _ => simp [nam, AV.cells, nam.namL]
theorem nam_okC (c k : Nat) (x : AV) : okC (nam c k x) = okC x := by
  cases x with
  | sl m sz xs =>
    simp only [nam]
    cases hm : m.ap with
    | cl d => by_cases hk : d = c <;> simp [hk, okC]
    | _ => rfl
  | _ => rfl
/-- what a value says of memory when names are told anew, and a class becomes a name -/
theorem Rel.nam {x x' : X} {base : Nat} {c k : Nat} (hG : x'.G = x.G) (hbx : x'.bx = x.bx) (hbz : x'.bz = x.bz) (hrg : x'.rg = x.rg) (hJ : x'.J = x.J) (hrv : x'.rv = x.rv) (htl : ∀ d, d ≠ c → x'.tl d = x.tl d) (hN : ∀ j b, ¬ (j = k) → x.nm j = some b → x'.nm j = some b) (hk : ∀ b e t, x.tl c = some (b, e, t) → x'.nm k = some (b, e)) {v : Value} {a : AV} (r : Rel x base v a) : noI (fun j => j = k) a → Rel x' base v (nam c k a) := by
  induction r with
  | un v => exact fun _ => .un v
  | lit v h => exact fun _ => .lit v h
  | sl v m sz xs h1 h2 h3 =>
    intro hn
    have d1 : RepD x'.G x'.nm v (.sl m sz xs) := by rw [hG]; exact h1.reN hN hn
    have d2 : m.fr = true → RepD (x'.G.from base) x'.nm v (.sl m sz xs) := fun hf => by rw [hG]; exact (h2 hf).reN hN hn
    obtain ⟨ap, fr⟩ := m
    cases ap with
    | no => exact .sl _ _ _ _ d1 d2 trivial
    | nl => exact .sl _ _ _ _ d1 d2 h3
    | id j => exact .sl _ _ _ _ d1 d2 trivial
    | ow t =>
      refine .sl _ _ _ _ d1 d2 ⟨?_, fun hu => by rw [hrv]; exact h3.2 hu⟩
      have := h3.1.reN hN ⟨by simp [ro], hn.2⟩
      rw [hG, hrg]
      exact this
    | cl d =>
      simp only [Vm.nam]
      by_cases hd : d = c
      · subst hd
        rw [if_pos rfl]
        have key : ∀ {G : Gh}, RepD G x'.nm v (.sl ⟨.cl d, fr⟩ sz xs) → RepD G x'.nm v (.sl ⟨.id k, fr⟩ sz xs) := by
          intro G hr
          cases hr with
          | sl A n cap _ _ _ b o f g1 g2 g3 g4 g5 g6 _ =>
            refine .sl A n cap _ _ _ b o f g1 g2 g3 g4 g5 g6 fun j hj hx => ?_
            obtain rfl : k = j := by simpa using hj
            rcases h3 with ⟨A', e⟩ | ⟨b', o', n', cap', e, ht⟩
            · injection e with _ e2 _
              rw [g1] at e2
              exact absurd (List.eq_nil_of_length_eq_zero e2) hx
            · rw [g3 hx] at e
              injection e with e1 e2 _
              injection e1 with e1
              injection e1 with e1 e3 _
              rw [e1, e3, ← g1, e2]
              exact hk _ _ _ ht
        exact .sl _ _ _ _ (key d1) (fun hf => key (d2 hf)) trivial
      · rw [if_neg hd]
        refine .sl _ _ _ _ d1 d2 ?_
        simp only [Room] at h3 ⊢
        rw [htl d hd]
        exact h3
  | agg vs cs hs _ ih =>
    intro hn
    refine .agg _ _ (by rw [namL_len]; exact hs) fun j v d hv hd => ?_
    rw [namL_get] at hd
    obtain ⟨e, he, rfl⟩ := Option.map_eq_some_iff.1 hd
    exact ih j v e hv he (noIL_get (cs := cs) hn he)
  | tup vs cs hs _ ih =>
    intro hn
    refine .tup _ _ (by rw [namL_len]; exact hs) fun j v d hv hd => ?_
    rw [namL_get] at hd
    obtain ⟨e, he, rfl⟩ := Option.map_eq_some_iff.1 hd
    exact ih j v e hv he (noIL_get (cs := cs) hn he)
  | ptr n i off =>
    intro _
    simp only [Vm.nam]
    rw [← hbx, ← hbz]
    exact .ptr n i off
  | ep b o fr cs f h1 h2 h3 =>
    intro hn
    have hc : ∀ (j : Nat) (d : AV), cs[j]? = some d → noI (fun j => j = k) d := fun j d hd => noIL_get (cs := cs) hn hd
    refine .ep b o fr cs f (fun j c h => by rw [hG]; exact h1 j c h) (fun j c h => ?_) fun hf j c h => ?_
    · rw [hG]; exact (h2 j c h).reN hN (hc j c h)
    · rw [hG]; exact (h3 hf j c h).reN hN (hc j c h)
  | fn f vs cs hs _ ih =>
    intro hn
    refine .fn f _ _ (by rw [namL_len]; exact hs) fun j v d hv hd => ?_
    rw [namL_get] at hd
    obtain ⟨e, he, rfl⟩ := Option.map_eq_some_iff.1 hd
    exact ih j v e hv he (noIL_get (cs := cs) hn he)
  | bs n sz len cap h hl =>
    intro _
    simp only [Vm.nam]
    rw [← hbx, ← hbz]
    exact .bs n sz len cap (by rw [hbz]; exact h) hl
  | hs v sz xs h => exact fun _ => .hs v sz xs (by rw [hG, hJ]; exact h)
  | hp b o cs f h1 h2 => exact fun _ => .hp b o cs f (fun j c hc e => by rw [hJ]; exact h1 j c hc e) (fun j c hc e => by rw [hG, hJ]; exact h2 j c hc e)
theorem BoxAt.nam {x x' : X} {base : Nat} {w : World} {n : Nat} {l : List AV} {c k : Nat} (h : BoxAt x base w n l) (hbx : x'.bx = x.bx) (hbz : x'.bz = x.bz) (hr : ∀ v a, Rel x base v a → noI (fun j => j = k) a → Rel x' base v (Vm.nam c k a)) (hn : noI.noIL (fun j => j = k) l) : BoxAt x' base w n (nam.namL c k l) := by
  obtain ⟨vals, ty, e1, e2, e3, e4⟩ := h
  refine ⟨vals, ty, by rw [hbx]; exact e1, by rw [hbz, namL_len]; exact e2, by rw [hbz]; exact e3, fun i e he => ?_⟩
  rw [namL_get] at he
  obtain ⟨e', he', rfl⟩ := Option.map_eq_some_iff.1 he
  obtain ⟨e5, e6⟩ := e4 i e' he'
  refine ⟨by rw [hbz, nam_cells, namL_len]; exact e5, fun j d hd => ?_⟩
  rw [nam_cells, namL_get] at hd
  obtain ⟨d', hd', rfl⟩ := Option.map_eq_some_iff.1 hd
  obtain ⟨e7, v, e8, e9, e10⟩ := e6 j d' hd'
  refine ⟨by rw [nam_okC]; exact e7, v, by rw [hbz]; exact e8, e9, hr _ _ e10 ?_⟩
  have hy' := noIL_get hn he'
  cases e' with
  | agg cs => exact noIL_get (cs := cs) hy' hd'
  | _ =>
    cases j with
    | zero => have := Option.some.inj hd'; rw [← this]; exact hy'
    | succ j => simp [AV.cells] at hd'
theorem St.nam (h : St E x0 w0 pb nt x a w s) {c k : Nat} (hk : E.nk k) (hs : s.noI (fun j => j = k)) : ∃ x', St E x0 w0 pb nt x' a w (s.nam c k) ∧ ∀ v a, Rel x w0.heap.size v a → noI (fun j => j = k) a → Rel x' w0.heap.size v (Vm.nam c k a) := by
  let x' : X := { x with tl := fun d => if d = c then none else x.tl d, nm := fun j => if j = k then (x.tl c).map (fun p => (p.1, p.2.1)) else x.nm j }
  have hr : ∀ v a, Rel x w0.heap.size v a → noI (fun j => j = k) a → Rel x' w0.heap.size v (Vm.nam c k a) := fun v a r => Rel.nam (x := x) (x' := x') rfl rfl rfl rfl rfl rfl (fun d hd => if_neg hd) (fun j b hj hb => by show (if j = k then _ else x.nm j) = _; rw [if_neg hj]; exact hb) (fun b e t ht => by show (if k = k then (x.tl c).map (fun p => (p.1, p.2.1)) else x.nm k) = _; rw [if_pos rfl, ht]; rfl) r
  have hlk : ∀ n l', look (mapV (nam.namL c k) s.bxs) n = some l' → ∃ l, look s.bxs n = some l ∧ l' = nam.namL c k l := by
    intro n l' hl
    rw [look_mapV] at hl
    obtain ⟨l, h1, h2⟩ := Option.map_eq_some_iff.1 hl
    exact ⟨l, h1, h2.symm⟩
  have htl : ∀ {d b e t}, x'.tl d = some (b, e, t) → d ≠ c ∧ x.tl d = some (b, e, t) := by
    intro d b e t hd
    change (if d = c then none else x.tl d) = some (b, e, t) at hd
    split at hd
    · cases hd
    · exact ⟨by assumption, hd⟩
  have hnm : ∀ {j b}, x'.nb j = some b → (j = k ∧ ∃ e t, x.tl c = some (b, e, t)) ∨ (j ≠ k ∧ x.nb j = some b) := by
    intro j b hj
    change (if j = k then (x.tl c).map (fun p => (p.1, p.2.1)) else x.nm j).map (·.1) = some b at hj
    split at hj
    · rename_i hjk
      rw [Option.map_map] at hj
      obtain ⟨⟨b', e, t⟩, h1, rfl⟩ := Option.map_eq_some_iff.1 hj
      exact .inl ⟨hjk, e, t, h1⟩
    · exact .inr ⟨by assumption, hj⟩
  refine ⟨x', ?_, hr⟩
  refine { h with env := fun t => ?_, bxs := fun n l' hl => ?_, inj := fun n m l1 l2 h1 h2 e => ?_, tl := ⟨fun d b e t ht => h.tl.1 d b e t (htl ht).2, fun d d' b e t e' t' h1 h2 => h.tl.2 d d' b e t e' t' (htl h1).2 (htl h2).2⟩, tlb := fun d b e t ht n l' hl => ?_, no := ⟨fun j hj => ?_, fun j b hj hb => ?_, fun j j' b hb hb' => ?_, fun j b hb => ?_, fun j d b e t ht hb => ?_, fun j n l' hl hb => ?_, fun j T b hT hb => ?_, fun T b d e t ht => h.no.qa T b d e t (htl ht).2, h.no.za⟩ }
  · have : (s.nam c k).get t = Vm.nam c k (s.get t) := by
      unfold AS.get AS.nam
      simp only [look_mapV]
      cases look s.env t <;> rfl
    rw [this]
    exact hr _ _ (h.env t) (noI_get hs t)
  · obtain ⟨l, h1, rfl⟩ := hlk n l' hl
    obtain ⟨g1, g2, g3⟩ := h.bxs n l h1
    exact ⟨g1.nam (x' := x') rfl rfl hr (allP_get hs.2 h1), g2, g3⟩
  · obtain ⟨l, h3, _⟩ := hlk n l1 h1
    obtain ⟨l', h4, _⟩ := hlk m l2 h2
    exact h.inj n m l l' h3 h4 e
  · obtain ⟨l, h3, _⟩ := hlk n l' hl
    exact h.tlb d b e t (htl ht).2 n l h3
  · have hjk : j ≠ k := by rintro rfl; exact hj hk
    show (if j = k then _ else x.nm j) = _
    rw [if_neg hjk]
    exact h.no.ka j hj
  · rcases hnm hb with ⟨_, e, t, ht⟩ | ⟨_, hb⟩
    · exact (h.tl.1 _ _ _ _ ht).1
    · exact h.no.fa j b hj hb
  · rcases hnm hb with ⟨h1, e, t, ht⟩ | ⟨h1, hb⟩
    · rcases hnm hb' with ⟨h2, _⟩ | ⟨h2, hb'⟩
      · rw [h1, h2]
      · exact absurd hb' (h.no.ta j' _ _ _ _ ht)
    · rcases hnm hb' with ⟨h2, e, t, ht⟩ | ⟨h2, hb'⟩
      · exact absurd hb (h.no.ta j _ _ _ _ ht)
      · exact h.no.ia j j' b hb hb'
  · rcases hnm hb with ⟨_, e, t, ht⟩ | ⟨_, hb⟩
    · obtain ⟨_, ⟨vals, ty, q2, _⟩, _⟩ := h.tl.1 _ _ _ _ ht
      exact (Array.getElem?_eq_some_iff.1 q2).1
    · exact h.no.ba j b hb
  · obtain ⟨hdc, ht⟩ := htl ht
    rcases hnm hb with ⟨_, e', t', ht'⟩ | ⟨_, hb⟩
    · exact hdc (h.tl.2 _ _ _ _ _ _ _ ht ht')
    · exact h.no.ta j d b e t ht hb
  · obtain ⟨l, h3, _⟩ := hlk n l' hl
    rcases hnm hb with ⟨_, e', t', ht'⟩ | ⟨_, hb⟩
    · exact h.tlb _ _ _ _ ht' n l h3 rfl
    · exact h.no.xa j n l h3 hb
  · rcases hnm hb with ⟨_, e', t', ht'⟩ | ⟨_, hb⟩
    · exact h.no.qa T _ _ _ _ ht' hT
    · exact h.no.ra j T b hT hb
theorem wk_sound {s' s : AS} (hw : Wk E.nk s' s) : ∀ {x : X}, St E x0 w0 pb nt x a w s → ∃ x', St E x0 w0 pb nt x' a w s' := by
  induction hw with
  | refl s => exact fun h => ⟨_, h⟩
  | frs s =>
    intro x h
    have ht : ∀ c b e t, x.tl c = some (b, e, t) → w0.heap.size ≤ b := fun c b e t ht => (h.tl.1 c b e t ht).1
    have hlk : ∀ n l', look (mapV frU.frUL s.bxs) n = some l' → ∃ l, look s.bxs n = some l ∧ l' = frU.frUL l := by
      intro n l' hl
      rw [look_mapV] at hl
      obtain ⟨l, h1, h2⟩ := Option.map_eq_some_iff.1 hl
      exact ⟨l, h1, h2.symm⟩
    refine ⟨x, { h with env := fun t => ?_, bxs := fun n l' hl => ?_, inj := fun n m l1 l2 h1 h2 e => ?_, tlb := fun c b e t ht n l' hl => ?_, no := h.no.sub fun n l' hl => by obtain ⟨l, h1, _⟩ := hlk n l' hl; exact ⟨l, h1⟩ }⟩
    · have : AS.get ⟨mapV frU s.env, mapV frU.frUL s.bxs⟩ t = frU (s.get t) := by
        unfold AS.get
        simp only [look_mapV]
        cases look s.env t <;> rfl
      rw [this]
      exact rel_frU ht (h.env t)
    · obtain ⟨l, h1, rfl⟩ := hlk n l' hl
      obtain ⟨⟨vals, ty, v1, v2, v3, v4⟩, hw, hG⟩ := h.bxs n l h1
      refine ⟨⟨vals, ty, v1, by rw [frUL_len]; exact v2, v3, fun i e he => ?_⟩, hw, hG⟩
      rw [frUL_get] at he
      obtain ⟨e', he', rfl⟩ := Option.map_eq_some_iff.1 he
      obtain ⟨v5, v6⟩ := v4 i e' he'
      refine ⟨by rw [frU_cells, frUL_len]; exact v5, fun j c hc => ?_⟩
      rw [frU_cells, frUL_get] at hc
      obtain ⟨c', hc', rfl⟩ := Option.map_eq_some_iff.1 hc
      obtain ⟨v7, u, v8, v9, v10⟩ := v6 j c' hc'
      exact ⟨by rw [frU_okC]; exact v7, u, v8, v9, rel_frU ht v10⟩
    · obtain ⟨l, h3, _⟩ := hlk n l1 h1
      obtain ⟨l', h4, _⟩ := hlk m l2 h2
      exact h.inj n m l l' h3 h4 e
    · obtain ⟨l, h3, _⟩ := hlk n l' hl
      exact h.tlb c b e t ht n l h3
  | trans _ _ ih1 ih2 =>
    intro x h
    obtain ⟨x1, h1⟩ := ih2 h
    exact ih1 h1
  | nam s c k hk hs =>
    intro x h
    obtain ⟨x', h', _⟩ := h.nam hk hs
    exact ⟨x', h'⟩
  | env s l hl =>
    intro x h
    refine ⟨x, { h with env := fun u => ?_ }⟩
    unfold AS.get
    cases hu : look l u with
    | none => exact .un _
    | some v => exact wkV_rel (hl u v hu) (h.env u)
  | bxs s l hl =>
    intro x h
    exact ⟨x, { h with bxs := fun n b hb => h.bxs n b (hl n b hb), inj := fun n m l1 l2 h1 h2 e => h.inj n m l1 l2 (hl n l1 h1) (hl m l2 h2) e, tlb := fun c b e t ht n l' hl' => h.tlb c b e t ht n l' (hl n l' hl'), no := h.no.sub fun n l' hl' => ⟨l', hl n l' hl'⟩ }⟩
  | frz s t n sz len l hn ht hb hlen hall =>
    intro x h
    obtain ⟨⟨vals, ty, v1, v2, v3, v4⟩, hwhere, hG⟩ := h.bxs n l hb
    have hge : w0.heap.size ≤ x.bx n := by
      rcases hwhere with hp | hp
      · have := h.pbl; omega
      · exact hp
    have hsub : ∀ m l', look (s.bxs.filter fun p => p.1 != n) m = some l' → m ≠ n ∧ look s.bxs m = some l' := by
      intro m l' hl'
      rw [look_filter] at hl'
      split at hl'
      · cases hl'
      · exact ⟨by assumption, hl'⟩
    have h1 : St E x0 w0 pb nt x a w ⟨s.env, s.bxs.filter fun p => p.1 != n⟩ := { h with bxs := fun m b hb => h.bxs m b (hsub m b hb).2, inj := fun m k l1 l2 q1 q2 e => h.inj m k l1 l2 (hsub m l1 q1).2 (hsub k l2 q2).2 e, tlb := fun c b e t ht m l' hl' => h.tlb c b e t ht m l' (hsub m l' hl').2, no := h.no.sub fun m l' hl' => ⟨l', (hsub m l' hl').2⟩ }
    have hlt : ∀ k, k < vals.size → vals[k]? = some (vals.getD k undef) := fun k hk => by rw [Array.getElem?_eq_getElem hk]; simp [Array.getD, hk]
    have h2 := h1.row0 (b := x.bx n) (o := 0) (n := vals.size) (f := fun k => vals.getD k undef) hge hG ⟨vals, ty, v1, fun k hk => by rw [Nat.zero_add]; exact hlt k hk⟩ (fun m l' hl' e => (hsub m l' hl').1 (h.inj m n l' l (hsub m l' hl').2 hb e)) (fun c e tt htt => h.tlb c _ e tt htt n l hb rfl)
    refine ⟨_, { h2 with env := fun u => ?_ }⟩
    have hg : ∀ u, AS.get ⟨setL t (.sl ⟨.no, true⟩ sz (strip.stripL l)) s.env, s.bxs.filter fun p => p.1 != n⟩ u = if u = t then .sl ⟨.no, true⟩ sz (strip.stripL l) else s.get u := by
      intro u
      unfold AS.get
      simp only [look_setL]
      split <;> rfl
    rw [hg u]
    split
    · rename_i hu
      subst hu
      have hr := h.env u
      have hgu : s.get u = .bs n sz len := by unfold AS.get; rw [ht]; rfl
      rw [hgu] at hr
      generalize hv : rd x0 a u = v at hr
      cases hr with
      | bs _ _ _ cap hbz hcap =>
        subst hbz
        have cell : ∀ (i : Nat) (y : AV) (j : Nat) (c : AV), (strip.stripL l)[i]? = some y → y.cells[j]? = some c → ∃ q, vals[(x.bz n).2 + i * (x.bz n).1 + j]? = some q ∧ q.oneCell' = true ∧ RepD (x.G.from w0.heap.size) x.nm q c := by
          intro i y j c hy hc
          rw [stripL_get] at hy
          obtain ⟨e, he, rfl⟩ := Option.map_eq_some_iff.1 hy
          obtain ⟨_, v6⟩ := v4 i e he
          rw [strip_cells, stripL_get] at hc
          obtain ⟨d, hd, rfl⟩ := Option.map_eq_some_iff.1 hc
          obtain ⟨v7, q, v8, v9, v10⟩ := v6 j d hd
          have hfd := List.all_eq_true.1 hall e (List.mem_of_getElem? he)
          simp only [Bool.and_eq_true] at hfd
          have hde : dat d = true ∧ frA d = true := by
            cases e with
            | agg cs => exact ⟨datL_get hfd.2 hd, frL_get hfd.1 hd⟩
            | _ =>
              cases j with
              | zero => have := Option.some.inj hd; rw [← this]; exact ⟨hfd.2, hfd.1⟩
              | succ j => simp [AV.cells] at hd
          obtain ⟨_, d2, _⟩ := rel_data v10 v7 hde.1
          exact ⟨q, v8, v9, d2 hde.2⟩
        have rep : ∀ {G : Gh}, (x.G.from w0.heap.size).le G → (∀ k, k < vals.size → G (x.bx n) (0 + k) = some (vals.getD k undef)) → RepD G x.nm (.slice (some ⟨x.bx n, (x.bz n).2, none⟩) len cap) (.sl ⟨.no, true⟩ (x.bz n).1 (strip.stripL l)) := by
          intro G hle hG2
          refine .sl _ len cap _ _ _ (x.bx n) (x.bz n).2 (fun i j => vals.getD ((x.bz n).2 + i * (x.bz n).1 + j) undef) (by rw [stripL_len, hlen]) hcap (fun _ => rfl) (fun i y hy => ?_) (fun i y j c hy hc => ?_) (fun i y j c hy hc => ?_) (by simp)
          · rw [stripL_get] at hy
            obtain ⟨e, he, rfl⟩ := Option.map_eq_some_iff.1 hy
            rw [strip_cells, stripL_len]
            exact (v4 i e he).1
          · obtain ⟨q, q1, q2, q3⟩ := cell i y j c hy hc
            have hk := (Array.getElem?_eq_some_iff.1 q1).1
            have hq : vals.getD ((x.bz n).2 + i * (x.bz n).1 + j) undef = q := by rw [Array.getD_eq_getD_getElem?, q1]; rfl
            rw [hq]
            refine ⟨?_, q2⟩
            have := hG2 _ hk
            rw [Nat.zero_add, hq] at this
            exact this
          · obtain ⟨q, q1, q2, q3⟩ := cell i y j c hy hc
            have hq : vals.getD ((x.bz n).2 + i * (x.bz n).1 + j) undef = q := by rw [Array.getD_eq_getD_getElem?, q1]; rfl
            rw [hq]
            exact q3.mono hle
        have hle0 := row_le (G := x.G) (b := x.bx n) (o := 0) (n := vals.size) (f := fun k => vals.getD k undef) (fun o' _ _ => hG o')
        have hrat : ∀ k, k < vals.size → (x.G.row (x.bx n) 0 (fun k => vals.getD k undef) vals.size) (x.bx n) (0 + k) = some (vals.getD k undef) := fun k hk => row_at (f := fun k => vals.getD k undef) hk
        refine .sl _ _ _ _ (rep (fun b o q hq => hle0 _ _ _ (from_le _ _ _ _ _ hq)) hrat) (fun _ => rep (from_mono hle0) (fun k hk => ?_)) trivial
        show (Gh.from w0.heap.size (x.G.row (x.bx n) 0 (fun k => vals.getD k undef) vals.size)) (x.bx n) (0 + k) = _
        unfold Gh.from
        rw [if_pos hge]
        exact hrat k hk
    · exact h2.env u
end
end Go.Proofs.YticockdhfglolaaGreatDoor.Vm
/- An abstract machine over values: code and functions. -/
namespace Go.Proofs.YticockdhfglolaaGreatDoor.Vm
open Go Go.RowKit
set_option linter.unusedVariables false
set_option linter.unusedSimpArgs false
theorem reL_get (ks : List Nat) : ∀ (cs : List AV) (j : Nat), (reC.reL ks cs)[j]? = (cs[j]?).map (reC ks)
  | [], j => by simp [reC.reL]
  | c :: cs, 0 => by simp [reC.reL]
  | c :: cs, j + 1 => by simp [reC.reL, reL_get ks cs j]
theorem reL_len (ks : List Nat) : ∀ (cs : List AV), (reC.reL ks cs).length = cs.length
  | [] => rfl
  | c :: cs => by simp [reC.reL, reL_len ks cs]
/-- may stand in a box that is handed back: data, and other boxes -/
def resB : AV → Bool
  | .bs _ _ _ => true
  | .un => true
  | .lit _ => true
  | .sl m _ _ => match m.ap with
    | .cl c => decide (c < 64)
    | .ow _ => false
    | _ => true
  | .agg cs => resBL cs
  | .tup cs => resBL cs
  | _ => false
where resBL : List AV → Bool
  | [] => true
  | c :: cs => resB c && resBL cs
theorem resB_of : ∀ (a : AV), resOk a = true → resB a = true := by
  intro a
  refine AV.rec (motive_1 := fun a => resOk a = true → resB a = true) (motive_2 := fun cs => resOk.resL cs = true → resB.resBL cs = true) ?_ ?_ ?_ ?_ ?_ ?_ ?_ ?_ ?_ ?_ ?_ ?_ ?_ a
  all_goals (intros; first | rfl | assumption | skip)
  · rename_i cs ih h; simp only [resB]; exact ih (by simpa only [resOk] using h)
  · rename_i cs ih h; simp only [resB]; exact ih (by simpa only [resOk] using h)
  · rename_i c cs h1 h2 h
    simp only [resOk.resL, Bool.and_eq_true] at h
    simp only [resB.resBL, h1 h.1, h2 h.2, Bool.and_self]
theorem resBL_all {cs : List AV} (h : resB.resBL cs = true) : ∀ {j : Nat} {c : AV}, cs[j]? = some c → resB c = true := by
  induction cs with
  | nil => intro j c hc; simp at hc
  | cons y cs ih =>
    simp only [resB.resBL, Bool.and_eq_true] at h
    intro j c hc
    cases j with
    | zero =>
      obtain rfl : y = c := by simpa using hc
      exact h.1
    | succ j => exact ih h.2 (by simpa using hc)
theorem rel_reC {x : X} {base : Nat} {ks : List Nat} {v : Value} {r : AV} (h : Rel x base v r) : resB (reC ks r) = true → Rel { x with tl := fun k => (ks[k]?).bind x.tl } base v (reC ks r) := by
  induction h with
  | un v => exact fun _ => .un v
  | lit v h => exact fun _ => .lit v h
  | sl v m sz xs h1 h2 h3 =>
    intro _
    obtain ⟨ap, fr⟩ := m
    have hm : ∀ k, (⟨match ap with | .cl c => if ks.contains c then .cl (ks.findIdx (· == c)) else .no | a => a, fr⟩ : Mk).ap = .id k → ap = .id k := by
      intro k hk
      cases ap <;> simp_all
      split at hk <;> cases hk
    refine .sl _ _ _ _ (h1.mark hm) (fun hf => (h2 hf).mark hm) ?_
    cases ap with
    | no => trivial
    | nl => exact h3
    | cl c =>
      simp only
      split
      · rename_i hc
        have hmem : c ∈ ks := by simpa using hc
        have hg := renB_get hmem
        unfold renB at hg
        simp only [Room] at h3 ⊢
        rw [hg.2]
        exact h3
      · trivial
    | ow k => exact h3
    | id k => trivial
  | agg vs cs hs _ ih =>
    intro hn
    refine .agg _ _ (by rw [reL_len]; exact hs) fun j v d hv hd => ?_
    have hn' := resBL_all (by simpa only [reC, resB] using hn) hd
    rw [reL_get] at hd
    obtain ⟨e, he, rfl⟩ := Option.map_eq_some_iff.1 hd
    exact ih j v e hv he hn'
  | tup vs cs hs _ ih =>
    intro hn
    refine .tup _ _ (by rw [reL_len]; exact hs) fun j v d hv hd => ?_
    have hn' := resBL_all (by simpa only [reC, resB] using hn) hd
    rw [reL_get] at hd
    obtain ⟨e, he, rfl⟩ := Option.map_eq_some_iff.1 hd
    exact ih j v e hv he hn'
  | ptr n i off => intro hn; simp [reC, resB] at hn
  | ep b o fr cs f h1 h2 h3 => intro hn; simp [reC, resB] at hn
  | fn f vs cs hs hr ih => intro hn; simp [reC, resB] at hn
  | bs n sz len cap h hl => exact fun _ => Rel.bs (x := { x with tl := fun k => (ks[k]?).bind x.tl }) n sz len cap h hl
  | hs => intro hn; simp [reC, resB] at hn
  | hp => intro hn; simp [reC, resB] at hn
section
variable {E : EnvK} {x0 x : X} {w0 w : World} {pb nt : Nat} {a : Act} {s : AS}
theorem val_bool (h : St E x0 w0 pb nt x a w s) {c : Operand} {c' : Od} (hc : od c = some c') {t : Bool} (ht : s.val c' = .lit (.bool t)) : a.eval c = .bool t := litv h hc ht
theorem vops_split (hK : ∀ n, n < pb → E.ng ≤ x0.bx n) {q : Bool} {ops : Array Oper} {Q : AS → Prop} {QQ : Exit → Act → World → Prop} (hQ : ∀ a w, Next2 E x0 w0 pb nt Q a w → QQ .normal a w) : ∀ (l : List Nat) (o1 o2 : List VO) (x : X) (a : Act) (w : World) (s : AS), (o1 ++ o2).length = l.length → (∀ (k i : Nat) (vo : VO), l[k]? = some i → (o1 ++ o2)[k]? = some vo → ∃ o, ops[i]? = some o ∧ IsOp E.P q nt ops o vo) → St E x0 w0 pb nt x a w s → (vops E o1 s fun s' => ∃ s1, Wk E.nk s1 s' ∧ vops E o2 s1 Q) → wpOps E.P ops QQ l a w
  | l, [], o2, x, a, w, s, hlen, hall, h, hv => by
    obtain ⟨s1, hw, hv⟩ := hv
    obtain ⟨x1, h1⟩ := wk_sound hw h
    exact vops_sound hK hQ (fun _ _ _ _ => trivial) l o2 x1 a w s1 (by simpa using hlen) (fun k i vo h1 h2 => hall k i vo h1 (by simpa using h2)) h1 hv
  | [], vo :: o1, o2, x, a, w, s, hlen, _, h, hv => by simp at hlen
  | i :: l, vo :: o1, o2, x, a, w, s, hlen, hall, h, hv => by
    obtain ⟨o, ho, his⟩ := hall 0 i vo rfl rfl
    rw [wpOps_cons]
    refine wpOp_mono (fun a' w' hn => ?_) (vop_sound h hK ho his hv)
    obtain ⟨x', s', hv', h'⟩ := hn
    exact vops_split hK hQ l o1 o2 x' a' w' s' (by simpa using hlen) (fun k i' vo' h1 h2 => hall (k + 1) i' vo' (by simpa using h1) (by simpa using h2)) h' hv'
theorem vx_sound (hK : ∀ n, n < pb → E.ng ≤ x0.bx n) {chk : Array Oper → List VO → Bool} (hchk : ∀ (id : Nat) (ops : Array Oper) (os : List VO) (Q : AS → Prop) (x : X) (a : Act) (w : World) (s : AS), cReg E.P true nt ops ops.toList = some os → chk ops os = true → os.all (tmpOk s) = true → vops E os s Q → St E x0 w0 pb nt x a w s → (Code.region id ops true).wp E.P (CQ E x0 w0 pb nt fun e s => e = .normal ∧ Q s) a w) {dr : Nat → List Nat} : ∀ (c : Code) (vc : VC), cCode E.P nt chk dr c = some vc → ∀ (Q : Ex → AS → Prop) (x : X) (a : Act) (w : World) (s : AS), vx E vc s Q → St E x0 w0 pb nt x a w s → c.wp E.P (CQ E x0 w0 pb nt Q) a w
  | .skip, vc, hc, Q, x, a, w, s, hv, h => by
    obtain rfl := Option.some.inj hc
    exact wp_skip ⟨x, s, hv, h⟩
  | .ret, vc, hc, Q, x, a, w, s, hv, h => by
    obtain rfl := Option.some.inj hc
    exact wp_ret ⟨x, s, hv, h⟩
  | .exit n, vc, hc, Q, x, a, w, s, hv, h => by
    obtain rfl := Option.some.inj hc
    exact wp_exit ⟨x, s, hv, h⟩
  | .seq c1 c2, vc, hc, Q, x, a, w, s, hv, h => by
    obtain ⟨v1, h1, hc⟩ := Option.bind_eq_some_iff.1 hc
    obtain ⟨v2, h2, hc⟩ := Option.bind_eq_some_iff.1 hc
    obtain rfl := Option.some.inj hc
    refine wp_seq (wp_mono (vx_sound hK hchk c1 v1 h1 _ x a w s hv h) fun e a' w' hq => ?_)
    cases e with
    | normal =>
      obtain ⟨x', s', hq, h'⟩ := hq
      exact vx_sound hK hchk c2 v2 h2 Q x' a' w' s' hq h'
    | ret => exact hq
    | exit n => exact hq
    | goto l => exact hq.elim
    | panic ch => exact hq.elim
    | outgrown => exact hq.elim
  | .cond c c1 c2, vc, hc, Q, x, a, w, s, hv, h => by
    obtain ⟨c', h0, hc⟩ := Option.bind_eq_some_iff.1 hc
    obtain ⟨v1, h1, hc⟩ := Option.bind_eq_some_iff.1 hc
    obtain ⟨v2, h2, hc⟩ := Option.bind_eq_some_iff.1 hc
    obtain rfl := Option.some.inj hc
    obtain ⟨t, ht, hv⟩ := hv
    refine wp_cond (val_bool h h0 ht) ?_
    cases t with
    | true => exact vx_sound hK hchk c1 v1 h1 Q x a w s (by simpa using hv) h
    | false => exact vx_sound hK hchk c2 v2 h2 Q x a w s (by simpa using hv) h
  | .block n c, vc, hc, Q, x, a, w, s, hv, h => by
    obtain ⟨v1, h1, hc⟩ := Option.bind_eq_some_iff.1 hc
    obtain rfl := Option.some.inj hc
    refine wp_block (wp_mono (vx_sound hK hchk c v1 h1 _ x a w s hv h) fun e a' w' hq => ?_)
    cases e with
    | normal =>
      obtain ⟨x', s', hq, h'⟩ := hq
      rw [if_neg (by intro e; cases e)] at hq
      exact ⟨x', s', hq, h'⟩
    | ret =>
      obtain ⟨x', s', hq, h'⟩ := hq
      rw [if_neg (by intro e; cases e)] at hq
      exact ⟨x', s', hq, h'⟩
    | exit m =>
      obtain ⟨x', s', hq, h'⟩ := hq
      by_cases hm : m = n
      · subst hm
        rw [if_pos rfl] at hq
        simp only [Exit.inBlock, if_true]
        exact ⟨x', s', hq, h'⟩
      · rw [if_neg (by intro e; injection e with e; exact hm e)] at hq
        simp only [Exit.inBlock, if_neg hm]
        exact ⟨x', s', hq, h'⟩
    | goto l => exact hq.elim
    | panic ch => exact hq.elim
    | outgrown => exact hq.elim
  | .loop c, vc, hc, Q, x, a, w, s, hv, h => by
    obtain ⟨v1, h1, hc⟩ := Option.bind_eq_some_iff.1 hc
    obtain rfl := Option.some.inj hc
    obtain ⟨n, hn⟩ := hv
    refine wp_loop_ghost (fun n a w => ∃ x s, iter E.nk (vx E v1) Q n s ∧ St E x0 w0 pb nt x a w s) n ⟨x, s, hn, h⟩ ?_
    rintro n a w ⟨x, s, hi, h⟩
    cases n with
    | zero => exact hi.elim
    | succ n =>
      obtain ⟨s1, hw, hi⟩ := hi
      obtain ⟨x1, hs1⟩ := wk_sound hw h
      refine wp_mono (vx_sound hK hchk c v1 h1 _ x1 a w s1 hi hs1) fun e a' w' hq => ?_
      cases e with
      | normal =>
        obtain ⟨x', s', hq, h'⟩ := hq
        exact ⟨n, Nat.lt_succ_self n, x', s', hq, h'⟩
      | ret => exact hq
      | exit n => exact hq
      | goto l => exact hq.elim
      | panic ch => exact hq.elim
      | outgrown => exact hq.elim
  | .region id ops draw, vc, hc, Q, x, a, w, s, hv, h => by
    obtain ⟨os, h1, hc⟩ := Option.bind_eq_some_iff.1 hc
    split at hc
    · rename_i hd
      have hc := Option.some.inj hc
      obtain ⟨i1, i2⟩ := cReg_spec h1
      have hall : ∀ (k i : Nat) (vo : VO), (List.range ops.size)[k]? = some i → os[k]? = some vo → draw = false → ∃ o, ops[i]? = some o ∧ IsOp E.P false nt ops o vo := by
        rintro k i vo hk hvo rfl
        have hklt : k < ops.size := by
          have := (List.getElem?_eq_some_iff.1 hk).1
          simpa using this
        rw [List.getElem?_range hklt] at hk
        obtain rfl := Option.some.inj hk
        exact ⟨ops[k], Array.getElem?_eq_getElem hklt, i2 k _ vo (by rw [Array.getElem?_toList]; exact Array.getElem?_eq_getElem hklt) hvo⟩
      by_cases hsp : draw = false ∧ ∃ k, (dr id).find? (fun k => decide (1000000 ≤ k)) = some k
      · obtain ⟨rfl, k, hk⟩ := hsp
        rw [hk] at hc
        simp only [Bool.false_eq_true, if_false] at hc
        generalize k - 1000000 = n at hc
        subst hc
        refine wp_region ?_
        have fin : ∀ a' w', Next2 E x0 w0 pb nt (fun s' => Q .normal ⟨drops (dr id) s'.env, s'.bxs⟩) a' w' → CQ E x0 w0 pb nt Q .normal a' w' := by
          rintro a' w' ⟨x', s', hq, h'⟩
          exact ⟨x', _, hq, h'.drops _⟩
        refine vops_split hK fin (List.range ops.size) (os.take n) (os.drop n) x a w s (by rw [List.take_append_drop, i1]; simp) (fun k i vo hk hvo => hall k i vo hk (by rw [List.take_append_drop] at hvo; exact hvo) rfl) h hv
      have hc : VC.reg draw os (dr id) = vc := by
        rw [← hc]
        cases draw with
        | true => rfl
        | false =>
          simp only [Bool.false_eq_true, if_false]
          cases hf : (dr id).find? (fun k => decide (1000000 ≤ k)) with
          | none => rfl
          | some k => exact absurd ⟨rfl, k, hf⟩ hsp
      subst hc
      obtain ⟨hv0, hv⟩ := hv
      have fin : ∀ a' w', Next2 E x0 w0 pb nt (fun s' => Q .normal ⟨drops (dr id) s'.env, s'.bxs⟩) a' w' → CQ E x0 w0 pb nt Q .normal a' w' := by
        rintro a' w' ⟨x', s', hq, h'⟩
        exact ⟨x', _, hq, h'.drops _⟩
      cases draw with
      | false =>
        refine wp_region ?_
        exact vops_sound (q := false) hK fin (fun _ _ _ _ => trivial) (List.range ops.size) os x a w s (by rw [i1]; simp) (fun k i vo hk hvo => hall k i vo hk hvo rfl) h hv
      | true =>
        have hcc : chk ops os = true := by
          rcases hd with hd | hd
          · cases hd
          · exact hd
        refine wp_mono (hchk id ops os _ x a w s h1 hcc (hv0 rfl) hv h) fun e a' w' hq => ?_
        cases e with
        | normal =>
          obtain ⟨x', s', ⟨_, hq⟩, h'⟩ := hq
          exact fin a' w' ⟨x', s', hq, h'⟩
        | ret => obtain ⟨x', s', ⟨hq, _⟩, h'⟩ := hq; cases hq
        | exit n => obtain ⟨x', s', ⟨hq, _⟩, h'⟩ := hq; cases hq
        | goto l => exact hq.elim
        | panic ch => exact hq.elim
        | outgrown => exact hq.elim
    · cases hc
  | .rangeFunc .., vc, hc, Q, x, a, w, s, hv, h => by cases hc
  | .scope c, vc, hc, Q, x, a, w, s, hv, h => by cases hc
  | .label l, vc, hc, Q, x, a, w, s, hv, h => by cases hc
  | .goto l, vc, hc, Q, x, a, w, s, hv, h => by cases hc
  | .refuse y, vc, hc, Q, x, a, w, s, hv, h => by cases hc
end
end Go.Proofs.YticockdhfglolaaGreatDoor.Vm
/- An abstract machine over values: functions. -/
namespace Go.Proofs.YticockdhfglolaaGreatDoor.Vm
open Go Go.RowKit
set_option linter.unusedVariables false
set_option linter.unusedSimpArgs false
theorem look_enum {α : Type} : ∀ (l : List α) (i t : Nat), look (enum i l) t = if i ≤ t then l[t - i]? else none
  | [], i, t => by simp [enum, look]
  | y :: l, i, t => by
    simp only [enum, look]
    by_cases h : t = i
    · subst h; simp
    · rw [if_neg h, look_enum l (i + 1) t]
      by_cases h2 : i + 1 ≤ t
      · rw [if_pos h2, if_pos (by omega), show t - i = (t - (i + 1)) + 1 by omega, List.getElem?_cons_succ]
      · rw [if_neg h2, if_neg (by omega)]
theorem reC_cells (ks : List Nat) (c : AV) : (reC ks c).cells = reC.reL ks c.cells := by cases c <;> simp [reC, AV.cells, reC.reL]
theorem okC_reC (ks : List Nat) (c : AV) : okC (reC ks c) = okC c := by cases c <;> rfl
section
variable {E : EnvK} {x0 x : X} {w0 w : World} {pb nt : Nat} {a : Act} {s : AS}
/-- one result -/
def getRes (tmps : Array Value) : ResultVar → Sem Value
  | .tmp t => pure (tmps.getD t undef)
  | .cell a t => do loadVar t (← asAddr (tmps.getD a undef))
theorem res_one (h : St E x0 w0 pb nt x a w s) {rv : ResultVar} {r : VR} (hr : cRes E.P [rv] = some [r]) {c : AV} (hc : resV s r = some c) : ∃ v, (getRes a.tmps rv).run E.P w = .ok v w ∧ Rel x w0.heap.size v c := by
  cases rv with
  | tmp t =>
    simp only [cRes] at hr
    split at hr
    rotate_left
    · cases hr
    rename_i htl
    simp only [Option.bind_some] at hr
    obtain rfl : VR.t t = r := by simpa using hr
    obtain rfl := Option.some.inj hc
    have := h.env t
    unfold rd at this
    rw [if_pos htl] at this
    exact ⟨_, rfl, this⟩
  | cell ad t =>
    simp only [cRes] at hr
    split at hr
    · cases hr
    rename_i htl
    obtain ⟨g, hg, hr⟩ := Option.bind_eq_some_iff.1 hr
    obtain ⟨sz, hsz, hr⟩ := Option.bind_eq_some_iff.1 hr
    simp only [Option.bind_some] at hr
    obtain rfl : VR.b ad g sz = r := by simpa using hr
    simp only [resV] at hc
    have r := h.env ad
    unfold rd at r
    rw [if_pos (Decidable.not_not.1 htl)] at r
    obtain ⟨v, ha⟩ : ∃ v, a.tmps.getD ad undef = v := ⟨_, rfl⟩
    rw [ha] at r
    simp only [getRes]
    rw [ha]
    generalize hav : s.get ad = av at r hc
    cases r with
    | ptr n i off =>
      obtain ⟨l, hl, hc⟩ := Option.bind_eq_some_iff.1 hc
      obtain ⟨el, hel, hc⟩ := Option.bind_eq_some_iff.1 hc
      obtain ⟨⟨vals, ty, v1, v2, v3, v4⟩, _, _⟩ := h.bxs n l hl
      obtain ⟨v5, v6⟩ := v4 i el hel
      have cell : ∀ j c, el.cells[j]? = some c → ∃ u, w.cell? ⟨x.bx n, (x.bz n).2 + i * (x.bz n).1 + j, none⟩ = some u ∧ Rel x w0.heap.size u c := by
        intro j c hj
        obtain ⟨_, u, u1, _, u2⟩ := v6 j c hj
        exact ⟨u, by rw [cell_block v1]; exact u1, u2⟩
      cases g with
      | true =>
        simp only [if_true] at hc
        split at hc
        · rename_i h1
          obtain rfl := Option.some.inj hc
          have hrun := run_loadCells (P := E.P) w ⟨x.bx n, (x.bz n).2 + i * (x.bz n).1 + off, none⟩ sz (fun j => ((w.cell? ⟨x.bx n, (x.bz n).2 + i * (x.bz n).1 + off + j, none⟩).getD undef)) (fun j hj => by
            obtain ⟨u, hu, _⟩ := cell (off + j) (el.cells[off + j]'(by omega)) (List.getElem?_eq_getElem (by omega))
            rw [← Nat.add_assoc] at hu
            rw [add0, hu]; rfl)
          refine ⟨.agg ((List.range sz).map fun j => ((w.cell? ⟨x.bx n, (x.bz n).2 + i * (x.bz n).1 + off + j, none⟩).getD undef)).toArray, ?_, .agg _ _ (by simp; omega) fun j u c hu hcc => ?_⟩
          · simp [asAddr, loadVar, run_agOf hg, run_szOf hsz, hrun]
          · rw [List.getElem?_take] at hcc
            split at hcc
            · rename_i hj
              rw [List.getElem?_drop] at hcc
              obtain ⟨u', hu', hr⟩ := cell (off + j) c hcc
              rw [← Nat.add_assoc] at hu'
              have : u = u' := by
                rw [List.getElem?_toArray, List.getElem?_map, List.getElem?_range hj] at hu
                have := (Option.some.inj hu).symm
                simp only [hu', Option.getD_some] at this
                exact this
              rw [this]; exact hr
            · cases hcc
        · cases hc
      | false =>
        simp only [Bool.false_eq_true, if_false] at hc
        obtain ⟨u, hu, hr⟩ := cell off c hc
        exact ⟨u, by simp [asAddr, loadVar, run_agOf hg, hu], hr⟩
    | _ => cases hc
theorem res_all (h : St E x0 w0 pb nt x a w s) : ∀ {rvs : List ResultVar} {rs : List VR} {l : List AV}, cRes E.P rvs = some rs → resVs s rs = some l → ∃ vs, (rvs.mapM (getRes a.tmps)).run E.P w = .ok vs w ∧ vs.length = l.length ∧ ∀ (i : Nat) (v : Value) (c : AV), vs[i]? = some v → l[i]? = some c → Rel x w0.heap.size v c
  | [], rs, l, h1, h2 => by
    obtain rfl := Option.some.inj h1
    obtain rfl := Option.some.inj h2
    exact ⟨[], rfl, rfl, by simp⟩
  | rv :: rvs, rs, l, h1, h2 => by
    have : ∃ r rs', rs = r :: rs' ∧ cRes E.P [rv] = some [r] ∧ cRes E.P rvs = some rs' := by
      cases rv with
      | tmp t =>
        simp only [cRes] at h1
        split at h1
        rotate_left
        · cases h1
        rename_i htl
        obtain ⟨rs', h3, h1⟩ := Option.bind_eq_some_iff.1 h1
        exact ⟨_, rs', (Option.some.inj h1).symm, by simp [cRes, htl], h3⟩
      | cell ad t =>
        simp only [cRes] at h1
        split at h1
        · cases h1
        rename_i htl
        obtain ⟨g, hg, h1⟩ := Option.bind_eq_some_iff.1 h1
        obtain ⟨sz, hsz, h1⟩ := Option.bind_eq_some_iff.1 h1
        obtain ⟨rs', h3, h1⟩ := Option.bind_eq_some_iff.1 h1
        exact ⟨_, rs', (Option.some.inj h1).symm, by simp only [cRes]; rw [if_neg htl, hg, hsz]; rfl, h3⟩
    obtain ⟨r, rs', rfl, h3, h4⟩ := this
    obtain ⟨c, hc, h2⟩ := Option.bind_eq_some_iff.1 h2
    obtain ⟨l', hl, h2⟩ := Option.bind_eq_some_iff.1 h2
    obtain rfl := Option.some.inj h2
    obtain ⟨v, v1, v2⟩ := res_one h h3 hc
    obtain ⟨vs, g1, g2, g3⟩ := res_all h h4 hl
    refine ⟨v :: vs, ?_, by simp [g2], fun i u d hu hd => ?_⟩
    · simp only [List.mapM_cons, Sem.run_bind, v1, Result.andThen_ok, g1, Sem.run_pure]
    · cases i with
      | zero =>
        obtain rfl : v = u := by simpa using hu
        obtain rfl : c = d := by simpa using hd
        exact v2
      | succ i => exact g3 i u d (by simpa using hu) (by simpa using hd)
theorem results_run (h : St E x0 w0 pb nt x a w s) {fn : Func} {rs : List VR} {l : List AV} (h1 : cRes E.P fn.results.toList = some rs) (h2 : resVs s rs = some l) : ∃ v, (results fn a.tmps).run E.P w = .ok v w ∧ Rel x w0.heap.size v (oneOr l) := by
  obtain ⟨vs, g1, g2, g3⟩ := res_all h h1 h2
  have hm : (fn.results.mapM (getRes a.tmps)).run E.P w = .ok vs.toArray w := by
    rw [Array.mapM_eq_mapM_toList, Sem.run_map, g1]
    rfl
  have he : results fn a.tmps = (do
      let vs ← fn.results.mapM (getRes a.tmps)
      pure (if h : vs.size = 1 then vs[0] else .tuple vs)) := by
    unfold results
    congr 1
  rw [he]
  simp only [Sem.run_bind, hm, Result.andThen_ok, Sem.run_pure]
  refine ⟨_, rfl, ?_⟩
  match l, vs, g2, g3 with
  | [], [], _, _ => exact .tup _ _ rfl (by simp)
  | [c], [v], _, g3 => exact g3 0 v c rfl rfl
  | c :: d :: l, v :: u :: vs, g2, g3 => 
    rw [dif_neg (by simp)]
    exact .tup _ _ (by simpa using g2) (fun i y z hy hz => g3 i y z (by simpa using hy) hz)
/-- From a function's code to its contract. -/
theorem Fx_of {f : Nat} {fn : Func} {c : Code} {vc : VC} {rs : List VR} {chk : Array Oper → List VO → Bool} {dr : Nat → List Nat} (hf : E.P.funcs[f]? = some fn) (hb : fn.body = some c) (hc : cCode E.P fn.ntmps chk dr c = some vc) (hr : cRes E.P fn.results.toList = some rs)
    (hchk : ∀ (x0 : X) (w0 : World) (pb : Nat), (∀ n, n < pb → E.ng ≤ x0.bx n) → ∀ (id : Nat) (ops : Array Oper) (os : List VO) (Q : AS → Prop) (x : X) (a : Act) (w : World) (s : AS), cReg E.P true fn.ntmps ops ops.toList = some os → chk ops os = true → os.all (tmpOk s) = true → vops E os s Q → St E x0 w0 pb fn.ntmps x a w s → (Code.region id ops true).wp E.P (CQ E x0 w0 pb fn.ntmps fun e s => e = .normal ∧ Q s) a w)
    (ks : List Nat) {bx bx' : List (List AV)} {args : List AV} {r : AV} {s0 : AS} (hconv : ∀ (x : X) (a : Act) (w : World), (∀ t b, ¬ x.rg t b) → (∀ k, E.nk k → x.nm k = none) → St E x w bx.length fn.ntmps x a w ⟨enum 0 args, enum 0 bx⟩ → ∃ x1, St E x w bx.length fn.ntmps x1 a w s0) (hlen : args.length ≤ fn.ntmps) (hntl : fn.ntmps ≤ 1000000000000) (hpb : bx.length ≤ 1000000000000) (hks : (dd ks) = ks)
    (hres : resOk r = true ∧ bx'.all resB.resBL = true ∧ bx'.length = bx.length)
    (hv : vx E vc s0 fun e s => (e = .normal ∨ e = .ret) ∧ ∃ s1, Wk E.nk s1 s ∧ ∃ l, resVs s1 rs = some l ∧ r = reC ks (oneOr l) ∧ ∃ bs, bxsOf s1 (List.range bx.length) = some bs ∧ bx' = bs.map (reC.reL ks)) : FxK E.toEnv E.nk f bx args bx' r := by
  refine ⟨hres.2.2, hres.1, fun x w vs hK htl hng hj hvs hargs hag hbx hinj hnp => ?_⟩
  refine calls_of_wp hf hb ?_
  have hst : St E x w bx.length fn.ntmps x { tmps := vs ++ Array.replicate (fn.ntmps - vs.size) undef, defers := [] } w ⟨enum 0 args, enum 0 bx⟩ := by
    refine { df := rfl, nt := by simp; omega, ntl := hntl, env := fun t => ?_, k := hK, fr := ⟨rfl, rfl, rfl, Nat.le_refl _, fun _ _ _ => rfl⟩, ag := hag, g1 := fun _ _ _ h => h, g2 := fun _ _ _ h _ => h, pbx := fun _ _ => ⟨rfl, rfl⟩, pbl := hpb, bxs := fun n l hl => ?_, inj := fun n m l l' h1 h2 e => ?_, tl := ⟨fun c b e t h => (by rw [htl] at h; cases h), fun c c' b e t e' t' h => (by rw [htl] at h; cases h)⟩, tlb := fun c b e t h => (by rw [htl] at h; cases h), jp := hj.1, j0 := fun b o hb => ⟨(by obtain ⟨vs', ty, q1, _⟩ := hj.1 b o hb; exact (Array.getElem?_eq_some_iff.1 q1).1), hj.2.1 b o hb⟩, jx := rfl, uf := fun b o v c ty fz hb hg hh => absurd (Array.getElem?_eq_some_iff.1 hh).1 (by omega), rgb := fun t b hb => absurd hb (hj.2.2 t b), rgd := fun t t' b hb => absurd hb (hj.2.2 t b), g0 := fun b o v hv => agree_lt hag hv, no := ⟨fun _ _ => rfl, fun k b hk hb => (by unfold X.nb at hb; rw [hnp.1 k hk] at hb; cases hb), hnp.2.1, fun k b hb => (hnp.2.2 k b hb).1, fun k c b e t h => (by rw [htl] at h; cases h), fun k n l hl hb => (by simp only [look_enum, Nat.zero_le, if_true, Nat.sub_zero] at hl; exact (hnp.2.2 k _ hb).2 n (List.getElem?_eq_some_iff.1 hl).1 rfl), fun k T b hT => absurd hT (hj.2.2 T b), fun T b c e t h => (by rw [htl] at h; cases h), fun b hb => absurd hb (hj.2.2 0 b)⟩ }
    · have hrd : rd x { tmps := vs ++ Array.replicate (fn.ntmps - vs.size) undef, defers := [] } t = rd x { tmps := vs ++ Array.replicate (fn.ntmps - vs.size) undef, defers := [] } t := rfl
      unfold AS.get
      simp only [look_enum, Nat.zero_le, if_true, Nat.sub_zero]
      cases hc : args[t]? with
      | none => exact .un _
      | some c =>
        have hlt : t < vs.size := by rw [hvs]; exact (List.getElem?_eq_some_iff.1 hc).1
        have : (vs ++ Array.replicate (fn.ntmps - vs.size) undef).getD t undef = vs[t] := by
          rw [Array.getD_eq_getD_getElem?, Array.getElem?_append_left hlt, Array.getElem?_eq_getElem hlt]; rfl
        unfold rd
        rw [if_pos (by omega), this]
        exact hargs t _ c (Array.getElem?_eq_getElem hlt) hc
    · simp only [look_enum, Nat.zero_le, if_true, Nat.sub_zero] at hl
      obtain ⟨h1, h2⟩ := hbx n l hl
      exact ⟨h1, .inl (List.getElem?_eq_some_iff.1 hl).1, h2⟩
    · simp only [look_enum, Nat.zero_le, if_true, Nat.sub_zero] at h1 h2
      exact hinj n m (List.getElem?_eq_some_iff.1 h1).1 (List.getElem?_eq_some_iff.1 h2).1 e
  have hpost : ∀ e a' w', CQ E x w bx.length fn.ntmps (fun e s => (e = .normal ∨ e = .ret) ∧ ∃ s1, Wk E.nk s1 s ∧ ∃ l, resVs s1 rs = some l ∧ r = reC ks (oneOr l) ∧ ∃ bs, bxsOf s1 (List.range bx.length) = some bs ∧ bx' = bs.map (reC.reL ks)) e a' w' → bodyPost E.P fn (fun e w' => ∃ v x', e = .returned v ∧ Rel x' w.heap.size v r ∧ x.G.le x'.G ∧ (∀ b o v, x'.G b o = some v → b < w.heap.size → x.G b o = some v) ∧ Agree x'.G w' ∧
      Fr w.heap.size (SBx bx.length x) w w' ∧ (∀ n, n < bx.length → x'.bx n = x.bx n ∧ x'.bz n = x.bz n) ∧
      (∀ (n : Nat) (l : List AV), bx'[n]? = some l → BoxAt x' w.heap.size w' n l ∧ ∀ o, x'.G (x.bx n) o = none) ∧ Tails x' w.heap.size w' ∧ JOk x.J w' ∧ New00 x'.G w.heap.size w' ∧ NmPost E.nk x x' w w') e a' w' := by
    have main : ∀ a' w', Next2 E x w bx.length fn.ntmps (fun s => ∃ s1, Wk E.nk s1 s ∧ ∃ l, resVs s1 rs = some l ∧ r = reC ks (oneOr l) ∧ ∃ bs, bxsOf s1 (List.range bx.length) = some bs ∧ bx' = bs.map (reC.reL ks)) a' w' → a'.defers = [] ∧ ∃ v, (results fn a'.tmps).run E.P w' = .ok v w' ∧ ∃ v' x', Ending.returned v = .returned v' ∧ Rel x' w.heap.size v' r ∧ x.G.le x'.G ∧ (∀ b o v, x'.G b o = some v → b < w.heap.size → x.G b o = some v) ∧ Agree x'.G w' ∧
      Fr w.heap.size (SBx bx.length x) w w' ∧ (∀ n, n < bx.length → x'.bx n = x.bx n ∧ x'.bz n = x.bz n) ∧
      (∀ (n : Nat) (l : List AV), bx'[n]? = some l → BoxAt x' w.heap.size w' n l ∧ ∀ o, x'.G (x.bx n) o = none) ∧ Tails x' w.heap.size w' ∧ JOk x.J w' ∧ New00 x'.G w.heap.size w' ∧ NmPost E.nk x x' w w' := by
      rintro a' w' ⟨x1, s, ⟨s1, hw, l, hl, rfl, bs, hbs, rfl⟩, h⟩
      obtain ⟨x2, h⟩ := wk_sound hw h
      obtain ⟨v, hv1, hv2⟩ := results_run h hr hl
      obtain ⟨b1, b2⟩ := bxsOf_get hbs
      refine ⟨h.df, v, hv1, v, { x2 with tl := fun k => (ks[k]?).bind x2.tl }, rfl, rel_reC hv2 (resB_of _ hres.1), h.g1, h.g2, h.ag, h.fr, h.pbx, fun n l' hl' => ?_, ?_, h.jp, h.uf, h.no.ka, fun k b hk hb => ⟨h.no.fa k b hk hb, h.no.ba k b hb⟩, h.no.ia, fun k c b e t ht => ?_⟩
      · rw [List.getElem?_map] at hl'
        obtain ⟨l0, hl0, rfl⟩ := Option.map_eq_some_iff.1 hl'
        obtain ⟨m, hm, hlook⟩ := b2 n l0 hl0
        obtain rfl : n = m := by
          have hlt := (List.getElem?_eq_some_iff.1 hm).1
          rw [List.length_range] at hlt
          rw [List.getElem?_range hlt] at hm
          exact Option.some.inj hm
        have hlt : n < bx.length := by
          have := (List.getElem?_eq_some_iff.1 hm).1
          simpa using this
        obtain ⟨⟨vals, ty, v1, v2, v3, v4⟩, _, hG⟩ := h.bxs n l0 hlook
        refine ⟨⟨vals, ty, v1, by rw [reL_len]; exact v2, v3, fun i e he => ?_⟩, fun o => by rw [← (h.pbx n hlt).1]; exact hG o⟩
        have hok : resB e = true := by
          have h1 := List.all_eq_true.1 hres.2.1 _ (List.mem_map_of_mem (List.mem_of_getElem? hl0))
          exact resBL_all h1 he
        rw [reL_get] at he
        obtain ⟨e', he', rfl⟩ := Option.map_eq_some_iff.1 he
        obtain ⟨v5, v6⟩ := v4 i e' he'
        refine ⟨by rw [reC_cells, reL_len]; exact v5, fun j c hj => ?_⟩
        rw [reC_cells] at hj
        have hokc : resB c = true := by
          cases e' with
          | agg cs => exact resBL_all (cs := reC.reL ks cs) (by simpa only [reC, resB] using hok) hj
          | _ =>
            cases j with
            | zero => have := Option.some.inj hj; rw [← this]; exact hok
            | succ j => simp [AV.cells, reC.reL] at hj
        rw [reL_get] at hj
        obtain ⟨c', hc', rfl⟩ := Option.map_eq_some_iff.1 hj
        obtain ⟨v7, u, v8, v9, v10⟩ := v6 j c' hc'
        exact ⟨by rw [okC_reC]; exact v7, u, v8, v9, rel_reC v10 hokc⟩
      · refine ⟨fun k b e t ht => ?_, fun k k' b e t e' t' h1 h2 => ?_⟩
        · obtain ⟨c, hc, ht⟩ := Option.bind_eq_some_iff.1 ht
          exact h.tl.1 c b e t ht
        · obtain ⟨c1, hc1, h1⟩ := Option.bind_eq_some_iff.1 h1
          obtain ⟨c2, hc2, h2⟩ := Option.bind_eq_some_iff.1 h2
          obtain rfl := h.tl.2 c1 c2 b e t e' t' h1 h2
          have hnd : ks.Nodup := by rw [← hks]; exact dd_nodup ks
          obtain ⟨l1, g1⟩ := List.getElem?_eq_some_iff.1 hc1
          obtain ⟨l2, g2⟩ := List.getElem?_eq_some_iff.1 hc2
          exact List.getElem_inj hnd |>.1 (g1.trans g2.symm)
      · obtain ⟨c', hc, ht⟩ := Option.bind_eq_some_iff.1 ht
        exact h.no.ta k c' b e t ht
    intro e a' w' hq
    cases e with
    | normal => exact main a' w' (by obtain ⟨x', s', ⟨_, h1⟩, h2⟩ := hq; exact ⟨x', s', h1, h2⟩)
    | ret => exact main a' w' (by obtain ⟨x', s', ⟨_, h1⟩, h2⟩ := hq; exact ⟨x', s', h1, h2⟩)
    | exit n => obtain ⟨x', s', ⟨h1, _⟩, h2⟩ := hq; rcases h1 with h1 | h1 <;> cases h1
    | goto l => exact hq.elim
    | panic ch => exact hq.elim
    | outgrown => exact hq.elim
  obtain ⟨x1, hst1⟩ := hconv x _ w hj.2.2 hnp.1 hst
  exact wp_mono (vx_sound hng (hchk x w bx.length hng) c vc hc _ x1 _ w _ hv hst1) hpost
end
end Go.Proofs.YticockdhfglolaaGreatDoor.Vm
/- An abstract machine over values: the orders of a region, first part: handing on. -/
namespace Go.Proofs.YticockdhfglolaaGreatDoor.Vm
open Go Go.RowKit
set_option linter.unusedVariables false
set_option linter.unusedSimpArgs false
theorem keep_putO (s : AS) (d : Option Nat) (v : AV) : Keep s (s.putO d v) d := by
  refine ⟨?_, fun t _ h => by rw [bxs_putO]; exact h⟩
  intro t ht h
  cases d with
  | none => exact h
  | some u =>
    simp only [AS.putO, get_put]
    rw [if_neg (fun e => ht (by rw [e]))]
    exact h
theorem keep_put (s : AS) (t : Nat) (v : AV) : Keep s (s.put t v) (some t) := keep_putO s (some t) v
theorem keep_setB {s s' : AS} {d : Option Nat} {n : Nat} {l : List AV} (h : Keep (s.setB n l) s' d) (hn : (∃ t, d = some t ∧ n = 1000000000000 + t) ∨ look s.bxs n ≠ none) : Keep s s' d := by
  refine ⟨h.1, fun t ht h' => h.2 t ht ?_⟩
  rw [look_setB]
  split
  · rename_i e
    subst e
    rcases hn with ⟨u, rfl, hu⟩ | hn
    · exact absurd (by rw [show u = t by omega]) ht
    · exact absurd h' hn
  · exact h'
theorem setBs_absent {m : Nat} : ∀ (ns : List Nat) (ls : List (List AV)) (s : AS), (∀ n ∈ ns, n ≠ m) → look (setBs s ns ls).bxs m = look s.bxs m
  | [], ls, s, _ => rfl
  | n :: ns, [], s, _ => rfl
  | n :: ns, l :: ls, s, h => by
    simp only [setBs]
    rw [setBs_absent ns ls _ (fun k hk => h k (List.mem_cons_of_mem _ hk)), look_setB, if_neg (fun e => h n List.mem_cons_self e.symm)]
theorem keep_setBs {s s' : AS} {d : Option Nat} {ns : List Nat} {ls bs : List (List AV)} (h : Keep (setBs s ns ls) s' d) (hb : bxsOf s ns = some bs) : Keep s s' d := by
  refine ⟨fun t ht h' => h.1 t ht (by rw [setBs_get]; exact h'), fun t ht h' => h.2 t ht ?_⟩
  rw [setBs_absent]
  · exact h'
  · rintro n hn rfl
    obtain ⟨b1, b2⟩ := bxsOf_get hb
    obtain ⟨k, hk, hkn⟩ := List.getElem_of_mem hn
    obtain ⟨m, hm, hl⟩ := b2 k (bs[k]'(by omega)) (List.getElem?_eq_getElem (by omega))
    rw [List.getElem?_eq_getElem hk, hkn] at hm
    obtain rfl := Option.some.inj hm
    rw [h'] at hl; cases hl
theorem keep_dem {s s' : AS} {d : Option Nat} {c : Nat} (h : Keep (s.dem c) s' d) : Keep s s' d := by
  refine ⟨fun t ht h' => h.1 t ht (by rw [get_dem, h']; rfl), fun t ht h' => h.2 t ht ?_⟩
  show look (mapV _ _) _ = none
  rw [look_mapV, h']; rfl
section
variable {E : EnvK} {s : AS} {d : Option Nat}
theorem vcall_mono {q : Bool} {f : Nat} {vs : List AV} {Q Q' : AS → Prop} (h : vcall E q s d f vs Q) (hm : ∀ s', Q s' → Keep s s' d → Q' s') : vcall E q s d f vs Q' := by
  obtain ⟨h1, h2, t, rfl, h4, bs, h5, h6, bs', r, h7, h8, h9⟩ := h
  exact ⟨h1, h2, t, rfl, h4, bs, h5, h6, bs', r, h7, h8, hm _ h9 (keep_setBs (keep_put _ _ _) h5)⟩
theorem vcall2_mono {q : Bool} {f : Nat} {vs : List AV} {Q Q' : AS → Prop} (h : vcall2 E q s d f vs Q) (hm : ∀ s', Q s' → Keep s s' d → Q' s') : vcall2 E q s d f vs Q' := by
  rcases h with ⟨h, h0⟩ | ⟨h1, h⟩ | ⟨h1, h⟩
  · exact .inl ⟨vcall_mono h hm, h0⟩
  rotate_left
  · obtain ⟨g1, g2, t, rfl, g3, K, y, g4, g5, g6, g7, g8, g9⟩ := h
    exact .inr (.inr ⟨h1, g1, g2, t, rfl, g3, K, y, g4, g5, g6, g7, g8, hm _ g9 (keep_put _ _ _)⟩)
  · refine .inr <| .inl ⟨h1, fun x0 w0 pb nt x a w hs hK hd args hl hr => (h x0 w0 pb nt x a w hs hK hd args hl hr).mono ?_⟩
    rintro e w' ⟨v, x', s', rfl, hq, hk, hst⟩
    exact ⟨v, x', s', rfl, hm _ hq hk, hk, hst⟩
theorem vact_mono {k : VK} {Q Q' : AS → Prop} (h : vact E s d Q k) (hm : ∀ s', Q s' → Keep s s' d → Q' s') : vact E s d Q' k := by
  have p : ∀ v, Q (s.putO d v) → Q' (s.putO d v) := fun v h => hm _ h (keep_putO s d v)
  cases k with
  | mv x => exact p _ h
  | as x => exact p _ h
  | pick c a b => obtain ⟨t, h1, h2⟩ := h; exact ⟨t, h1, p _ h2⟩
  | bin op ty x y => obtain ⟨t, h1, h2⟩ := h; exact ⟨t, h1, p _ h2⟩
  | un op x => obtain ⟨t, h1, h2⟩ := h; exact ⟨t, h1, p _ h2⟩
  | len b x => obtain ⟨t, h1, h2⟩ := h; exact ⟨t, h1, p _ h2⟩
  | idx x i => obtain ⟨b, k, j, h1, h2, h3, h4, h5⟩ := h; exact ⟨b, k, j, h1, h2, h3, h4, p _ h5⟩
  | ia sz x i =>
    obtain ⟨k, j, h1, h2, h⟩ := h
    refine ⟨k, j, h1, h2, ?_⟩
    cases hx : s.val x <;> rw [hx] at h <;> simp only at h ⊢
    · obtain ⟨g1, e, g2, g3⟩ := h; exact ⟨g1, e, g2, p _ g3⟩
    · obtain ⟨g1, g2, g3⟩ := h; exact ⟨g1, g2, p _ g3⟩
    · obtain ⟨g1, e, g2, g3⟩ := h; exact ⟨g1, e, g2, p _ g3⟩
  | fa off x =>
    simp only [vact] at h ⊢
    cases hx : s.val x <;> rw [hx] at h <;> simp only at h ⊢
    · exact p _ h
    · exact ⟨h.1, p _ h.2⟩
    · exact ⟨h.1, p _ h.2⟩
  | ld ag sz x =>
    simp only [vact] at h ⊢
    cases hx : s.val x <;> rw [hx] at h <;> simp only at h ⊢
    · obtain ⟨l, e, h1, h2, h⟩ := h
      refine ⟨l, e, h1, h2, ?_⟩
      cases ag
      · simp only [Bool.false_eq_true, if_false] at h ⊢
        obtain ⟨c, h3, h4⟩ := h; exact ⟨c, h3, p _ h4⟩
      · simp only [if_true] at h ⊢
        exact ⟨h.1, p _ h.2⟩
    · cases ag
      · simp only [Bool.false_eq_true, if_false] at h ⊢
        obtain ⟨c, h3, h4⟩ := h; exact ⟨c, h3, p _ h4⟩
      · simp only [if_true] at h ⊢
        exact ⟨h.1, p _ h.2⟩
    · obtain ⟨g1, z, ys, g2, g3⟩ := h; exact ⟨g1, z, ys, g2, p _ g3⟩
  | st sz a x =>
    rcases h with ⟨n, i, o, h1, l, e, h2, h3, h4, h5, h6, h7, h8⟩ | ⟨c, cs, h1, h2, h3, h4, h5, h6⟩
    · exact .inl ⟨n, i, o, h1, l, e, h2, h3, h4, h5, h6, h7, hm _ h8 (keep_setB (keep_putO _ _ _) (.inr (by rw [h2]; simp)))⟩
    · exact .inr ⟨c, cs, h1, h2, h3, h4, h5, p _ h6⟩
  | box sz x =>
    obtain ⟨t, rfl, h2, h3, h4, h5, h6, h7⟩ := h
    exact ⟨t, rfl, h2, h3, h4, h5, h6, hm _ h7 (keep_setB (keep_put _ _ _) (.inl ⟨t, rfl, rfl⟩))⟩
  | alloc z =>
    obtain ⟨t, rfl, h2, h3, h4, h5, h6⟩ := h
    exact ⟨t, rfl, h2, h3, h4, h5, hm _ h6 (keep_setB (keep_put _ _ _) (.inl ⟨t, rfl, rfl⟩))⟩
  | bld z ps => obtain ⟨h1, cs, h2, h3⟩ := h; exact ⟨h1, cs, h2, p _ h3⟩
  | bsl sz xs =>
    obtain ⟨t, rfl, h2, h3, h4⟩ := h
    exact ⟨t, rfl, h2, h3, hm _ h4 (keep_put _ _ _)⟩
  | slS x lo hi => obtain ⟨b, h1, l, h', h2, h3⟩ := h; exact ⟨b, h1, l, h', h2, p _ h3⟩
  | slL sz x lo hi => obtain ⟨m, z, xs, h1, h2, l, h', h3, h4⟩ := h; exact ⟨m, z, xs, h1, h2, l, h', h3, p _ h4⟩
  | app sz byt x y =>
    obtain ⟨m, z, xs, h1, m2, z2, ys, h2, h3, h4, h5, h⟩ := h
    refine ⟨m, z, xs, h1, m2, z2, ys, h2, h3, h4, h5, ?_⟩
    cases hm' : m.ap <;> rw [hm'] at h <;> simp only at h ⊢
    · obtain ⟨t, rfl, g1, g2⟩ := h
      exact ⟨t, rfl, g1, hm _ g2 (keep_put _ _ _)⟩
    · exact ⟨h.1, hm _ h.2 (keep_dem (keep_putO _ _ _))⟩
  | apS x y =>
    obtain ⟨m, z, xs, h1, b, h2, h3, h5, h⟩ := h
    refine ⟨m, z, xs, h1, b, h2, h3, h5, ?_⟩
    cases hm' : m.ap <;> rw [hm'] at h <;> simp only at h ⊢
    · obtain ⟨t, rfl, g1, g2⟩ := h
      exact ⟨t, rfl, g1, hm _ g2 (keep_put _ _ _)⟩
    · exact ⟨h.1, hm _ h.2 (keep_dem (keep_putO _ _ _))⟩
  | mks sz byt z n =>
    obtain ⟨t, k, j, rfl, h2, h3, h4, h5, h6, h7, h8, h9, h10⟩ := h
    exact ⟨t, k, j, rfl, h2, h3, h4, h5, h6, h7, h8, h9, hm _ h10 (keep_setB (keep_put _ _ _) (.inl ⟨t, rfl, rfl⟩))⟩
  | ext x i => obtain ⟨cs, c, h1, h2, h3⟩ := h; exact ⟨cs, c, h1, h2, p _ h3⟩
  | call q f as =>
    exact vcall2_mono h hm
  | callv q x as => obtain ⟨f, cs, h1, h2, h3⟩ := h; exact ⟨f, cs, h1, h2, vcall2_mono h3 hm⟩
  | mkf f as => exact p _ h
  | cvI k x => obtain ⟨k', j, h1, h2⟩ := h; exact ⟨k', j, h1, p _ h2⟩
  | b2s x => obtain ⟨m, z, xs, l, h1, h2, h3, h4⟩ := h; exact ⟨m, z, xs, l, h1, h2, h3, p _ h4⟩
  | cvS x => obtain ⟨b, h1, h2⟩ := h; exact ⟨b, h1, p _ h2⟩
  | isn neg x => obtain ⟨m, z, xs, h1, h2⟩ := h; exact ⟨m, z, xs, h1, fun b hb => p _ (h2 b hb)⟩
  | slM sz x => obtain ⟨m, z, xs, h1, h2⟩ := h; exact ⟨m, z, xs, h1, p _ h2⟩
  | bsb xs =>
    obtain ⟨t, rfl, h2, h3, h4⟩ := h
    exact ⟨t, rfl, h2, h3, hm _ h4 (keep_setB (keep_put _ _ _) (.inl ⟨t, rfl, rfl⟩))⟩
  | mn x y => obtain ⟨k, u, v, h1, h2, h3⟩ := h; exact ⟨k, u, v, h1, h2, p _ h3⟩
theorem vop_mono {o : VO} {Q Q' : AS → Prop} (h : vop E o s Q) (hm : ∀ s', Q s' → Keep s s' o.d → Q' s') : vop E o s Q' := by
  unfold vop at *
  split at h
  · exact vact_mono h hm
  · obtain ⟨b, hb, h⟩ := h
    refine ⟨b, hb, ?_⟩
    split at h
    · rename_i e; rw [if_pos e]; exact vact_mono h hm
    · rename_i e; rw [if_neg e]; exact hm _ h (keep_putO _ _ _)
theorem vops_mono : ∀ (os : List VO) (s : AS) (R R' : AS → Prop), vops E os s R → (∀ s, R s → R' s) → vops E os s R'
  | [], _, _, _, h, hm => hm _ h
  | o :: os, _, R, R', h, hm => vop_mono h fun s' h' _ => vops_mono os s' R R' h' hm
end
end Go.Proofs.YticockdhfglolaaGreatDoor.Vm
/- An abstract machine over values: the orders of a region, second part: what an operation does, apart from where. -/
namespace Go.Proofs.YticockdhfglolaaGreatDoor.Vm
open Go Go.RowKit
set_option linter.unusedVariables false
set_option linter.unusedSimpArgs false
/-- what comes out: the value, the new box, and which label must be new (1: class, 2: box) -/
structure Out where
  v : AV
  nb : Option (List AV)
  fk : Nat
  K : Nat → Prop
/-- no names -/
def K0 : Nat → Prop := fun _ => False
theorem noI_not {p : Nat → Prop} (hp : ∀ k, ¬ p k) : ∀ (a : AV), noI p a := by
  intro a
  refine AV.rec (motive_1 := fun a => noI p a) (motive_2 := fun l => noI.noIL p l) ?_ ?_ ?_ ?_ ?_ ?_ ?_ ?_ ?_ ?_ ?_ ?_ ?_ a
  all_goals (intros; first | trivial | skip)
  · rename_i h; exact ⟨fun k _ => hp k, h⟩
  all_goals first
    | (rename_i h; exact h)
    | (rename_i h1 h2; exact ⟨h1, h2⟩)
theorem noIL_not {p : Nat → Prop} (hp : ∀ k, ¬ p k) : ∀ (l : List AV), noI.noIL p l
  | [] => trivial
  | a :: l => ⟨noI_not hp a, noIL_not hp l⟩
theorem noIS_not {p : Nat → Prop} (hp : ∀ k, ¬ p k) (s : AS) : s.noI p := by
  have h1 : ∀ l : List (Nat × AV), allP (Vm.noI p) l := by
    intro l
    induction l with
    | nil => trivial
    | cons a l ih => exact ⟨noI_not hp _, ih⟩
  have h2 : ∀ l : List (Nat × List AV), allP (noI.noIL p) l := by
    intro l
    induction l with
    | nil => trivial
    | cons a l ih => exact ⟨noIL_not hp _, ih⟩
  exact ⟨h1 _, h2 _⟩
theorem noI_K0 (s : AS) : s.noI K0 := noIS_not (fun _ h => h) s
def ccall (E : EnvK) (d : Option Nat) (f : Nat) (vs : List AV) (r : Out) : Prop :=
  argOk.argL vs = true ∧ dd (ptrs.ptrsL vs) = [] ∧ ∃ t, d = some t ∧ ∃ K y, (∀ k, K k → E.nk k) ∧ noI.noIL K vs ∧ ((∀ k, ¬ E.nk k) ∨ idc K vs y) ∧ FxK E K f [] (ren.renL [] (strip.stripL vs)) [] y ∧ r = ⟨relab t (frA.frL vs) y, none, 1, K⟩
def core (E : EnvK) (s : AS) (d : Option Nat) : VK → Out → Prop
  | .mv x, r => r = ⟨s.val x, none, 0, K0⟩
  | .as x, r => r = ⟨s.val x, none, 0, K0⟩
  | .pick c a b, r => ∃ t, s.val c = .lit (.bool t) ∧ r = ⟨if t then s.val a else s.val b, none, 0, K0⟩
  | .bin op ty x y, r => ∃ v, binV op ty (s.val x) (s.val y) = some v ∧ r = ⟨.lit v, none, 0, K0⟩
  | .un op x, r => ∃ v, unV op (s.val x) = some v ∧ r = ⟨.lit v, none, 0, K0⟩
  | .len b x, r => ∃ n, lenV b (s.val x) = some n ∧ r = ⟨.lit (.int .i64 n), none, 0, K0⟩
  | .idx x i, r => ∃ b k j, s.val x = .lit (.string b) ∧ s.val i = .lit (.int k j) ∧ 0 ≤ j ∧ j < b.size ∧ r = ⟨.lit (.int .u8 (bt b j.toNat).toNat), none, 0, K0⟩
  | .ia sz x i, r => ∃ k j, s.val i = .lit (.int k j) ∧ 0 ≤ j ∧ (match s.val x with
    | .sl m z xs => z = sz ∧ ∃ e, xs[j.toNat]? = some e ∧ r = ⟨.ep m.fr e.cells, none, 0, K0⟩
    | .bs n z l => z = sz ∧ j < l ∧ r = ⟨.ptr n j.toNat 0, none, 0, K0⟩
    | .hs z xs => z = sz ∧ ∃ e, xs[j.toNat]? = some e ∧ r = ⟨.hp e.cells, none, 0, K0⟩
    | _ => False)
  | .fa off x, r => (match s.val x with
    | .ep fr cs => off ≤ cs.length ∧ r = ⟨.ep fr (cs.drop off), none, 0, K0⟩
    | .ptr n i o => r = ⟨.ptr n i (o + off), none, 0, K0⟩
    | .hp cs => off ≤ cs.length ∧ r = ⟨.hp (cs.drop off), none, 0, K0⟩
    | _ => False)
  | .ld ag sz x, r => (match s.val x with
    | .ep fr cs => if ag then sz ≤ cs.length ∧ r = ⟨.agg (mkF.mkL fr (cs.take sz)), none, 0, K0⟩ else ∃ c, cs[0]? = some c ∧ r = ⟨mkF fr c, none, 0, K0⟩
    | .ptr n i o => ∃ l e, look s.bxs n = some l ∧ l[i]? = some e ∧ (if ag then o + sz ≤ e.cells.length ∧ r = ⟨.agg ((e.cells.drop o).take sz), none, 0, K0⟩ else ∃ c, e.cells[o]? = some c ∧ r = ⟨c, none, 0, K0⟩)
    | .hp cs => ag = false ∧ ∃ z ys, cs[0]? = some (.hs z ys) ∧ r = ⟨.hs z ys, none, 0, K0⟩
    | _ => False)
  | .box sz x, r => ∃ t, d = some t ∧ (s.val x).cells.length = sz ∧ 0 < sz ∧ (s.val x).cells.all okC = true ∧ noB (1000000000000 + t) (s.val x) = true ∧ r = ⟨.ptr (1000000000000 + t) 0 0, some [s.val x], 2, K0⟩
  | .alloc z, r => ∃ t, d = some t ∧ 0 < z.cells.length ∧ z.cells.all okC = true ∧ noB (1000000000000 + t) z = true ∧ r = ⟨.ptr (1000000000000 + t) 0 0, some [z], 2, K0⟩
  | .bsl sz xs, r => ∃ t, d = some t ∧ (s.vals xs).all (fun x => decide (x.cells.length = sz) && dat x && x.cells.all okC) = true ∧ r = ⟨.sl ⟨.cl (64 * t), frA.frL (s.vals xs)⟩ sz (strip.stripL (s.vals xs)), none, 1, K0⟩
  | .slS x lo hi, r => ∃ b, s.val x = .lit (.string b) ∧ ∃ l h, cutB s b.size lo hi = some (l, h) ∧ r = ⟨.lit (.string (b.extract l h)), none, 0, K0⟩
  | .slL sz x lo hi, r => ∃ m z xs, s.val x = .sl m z xs ∧ (z = sz ∨ xs = []) ∧ ∃ l h, cutB s xs.length lo hi = some (l, h) ∧ r = ⟨.sl ⟨if isNone hi then noOw m.ap else .no, m.fr⟩ z ((xs.take h).drop l), none, 0, K0⟩
  | .ext x i, r => ∃ cs c, s.val x = .tup cs ∧ cs[i]? = some c ∧ r = ⟨c, none, 0, K0⟩
  | .call q f as, r => q = true ∧ ccall E d f (s.vals as) r
  | .callv q x as, r => q = true ∧ ∃ f cs, s.val x = .fn f cs ∧ fnOk E.P f = true ∧ ccall E d f (s.vals as ++ cs) r
  | .cvI k x, r => ∃ k' j, s.val x = .lit (.int k' j) ∧ r = ⟨.lit (.int k (k.wrap j)), none, 0, K0⟩
  | .b2s x, r => ∃ (m : Mk) (z : Nat) (xs : List AV) (l : List UInt8), s.val x = .sl m z xs ∧ (z = 1 ∨ xs = []) ∧ xs = l.map (fun b : UInt8 => AV.lit (.int .u8 b.toNat)) ∧ r = ⟨.lit (.string ⟨l.toArray⟩), none, 0, K0⟩
  | .cvS x, r => ∃ b, s.val x = .lit (.string b) ∧ r = ⟨.lit (.string b), none, 0, K0⟩
  | .mkf f as, r => r = ⟨.fn f (s.vals as), none, 0, K0⟩
  | .bld z ps, r => (pvals s ps).all (fun p => p.2.2.cells.all okC) = true ∧ ∃ cs, fill z (pvals s ps) = some cs ∧ r = ⟨.agg cs, none, 0, K0⟩
  | _, _ => False
def AS.out (s : AS) (d : Option Nat) (r : Out) : AS :=
  match r.nb, d with
  | some l, some t => (s.setB (1000000000000 + t) l).put t r.v
  | _, d => s.putO d r.v
def fresh (s : AS) (d : Option Nat) (fk : Nat) : Prop :=
  (fk = 1 → ∃ t, d = some t ∧ (s.putO d .un).noC t = true) ∧ (fk = 2 → ∃ t, d = some t ∧ (s.putO d .un).noB (1000000000000 + t) = true)
/-- quiet: its outcome is told by 'core' -/
def VK.quiet : VK → Bool
  | .st _ _ _ | .app _ _ _ _ | .apS _ _ | .mks _ _ _ _ | .isn _ _ | .slM _ _ | .mn _ _ | .bsb _ => false
  | .call q _ _ => q
  | .callv q _ _ => q
  | _ => true
def freshN (s : AS) (d : Option Nat) (r : Out) : Prop := fresh s d r.fk ∧ (s.putO d .un).noI r.K
section
variable {E : EnvK} {s : AS} {d : Option Nat}
theorem fresh00 : fresh s d 0 := ⟨fun h => (by cases h), fun h => (by cases h)⟩
theorem fresh0 {v : AV} {nb : Option (List AV)} : freshN s d ⟨v, nb, 0, K0⟩ := ⟨fresh00, noI_K0 _⟩
theorem vcall_core {f : Nat} {vs : List AV} {Q : AS → Prop} (h : vcall2 E true s d f vs Q) : ∃ r, ccall E d f vs r ∧ freshN s d r ∧ Q (s.out d r) := by
  rcases h with ⟨h, h0⟩ | ⟨h, _⟩ | ⟨_, h⟩
  · obtain ⟨h1, h2, t, rfl, h4, bs, h5, h6, bs', r, h7, h8, h9⟩ := h
    have h2 := h2 rfl
    rw [h2] at h5 h7 h9
    obtain rfl := Option.some.inj h5
    obtain rfl : bs' = [] := List.eq_nil_of_length_eq_zero h7.1
    exact ⟨_, ⟨h1, h2, t, rfl, K0, r, fun _ hk => hk.elim, noIL_not (fun _ h => h) _, .inl (h0 rfl), h7, rfl⟩, ⟨⟨fun _ => ⟨t, rfl, h4⟩, fun h => (by cases h)⟩, noI_K0 _⟩, h9⟩
  · cases h
  · obtain ⟨h1, h2, t, rfl, h4, K, y, g1, g2, g3, g4, g5, g6⟩ := h
    exact ⟨_, ⟨h1, h2, t, rfl, K, y, g1, g3, .inr g4, g5, rfl⟩, ⟨⟨fun _ => ⟨t, rfl, h4⟩, fun h => (by cases h)⟩, g2⟩, g6⟩
theorem core_vcall {f : Nat} {vs : List AV} {Q : AS → Prop} {r : Out} (h : ccall E d f vs r) (hf : freshN s d r) (hq : Q (s.out d r)) : vcall2 E true s d f vs Q := by
  obtain ⟨h1, h2, t, rfl, K, y, g1, g2, g3, h3, rfl⟩ := h
  obtain ⟨t', e, h4⟩ := hf.1.1 rfl
  obtain rfl := Option.some.inj e
  rcases g3 with g3 | g3
  · obtain rfl : K = fun _ => False := by
      funext k
      exact propext ⟨fun hk => g3 k (g1 k hk), fun h => h.elim⟩
    exact .inl ⟨⟨h1, fun _ => h2, t, rfl, h4, [], by rw [h2]; rfl, rfl, [], y, by rw [h2]; exact h3, rfl, by rw [h2]; exact hq⟩, fun _ => g3⟩
  · exact .inr (.inr ⟨rfl, h1, h2, t, rfl, h4, K, y, g1, hf.2, g2, g3, h3, hq⟩)
theorem vact_core {k : VK} {Q : AS → Prop} (hk : k.quiet = true) (h : vact E s d Q k) : ∃ r, core E s d k r ∧ freshN s d r ∧ Q (s.out d r) := by
  cases k with
  | mv x => exact ⟨_, rfl, fresh0, h⟩
  | as x => exact ⟨_, rfl, fresh0, h⟩
  | pick c a b => obtain ⟨t, h1, h2⟩ := h; exact ⟨_, ⟨t, h1, rfl⟩, fresh0, h2⟩
  | bin op ty x y => obtain ⟨t, h1, h2⟩ := h; exact ⟨_, ⟨t, h1, rfl⟩, fresh0, h2⟩
  | un op x => obtain ⟨t, h1, h2⟩ := h; exact ⟨_, ⟨t, h1, rfl⟩, fresh0, h2⟩
  | len b x => obtain ⟨t, h1, h2⟩ := h; exact ⟨_, ⟨t, h1, rfl⟩, fresh0, h2⟩
  | idx x i => obtain ⟨b, k, j, h1, h2, h3, h4, h5⟩ := h; exact ⟨_, ⟨b, k, j, h1, h2, h3, h4, rfl⟩, fresh0, h5⟩
  | ia sz x i =>
    obtain ⟨k, j, h1, h2, h⟩ := h
    simp only [core]
    cases hx : s.val x <;> rw [hx] at h <;> simp only at h ⊢
    · obtain ⟨g1, e, g2, g3⟩ := h; exact ⟨_, ⟨k, j, h1, h2, g1, e, g2, rfl⟩, fresh0, g3⟩
    · obtain ⟨g1, g2, g3⟩ := h; exact ⟨_, ⟨k, j, h1, h2, g1, g2, rfl⟩, fresh0, g3⟩
    · obtain ⟨g1, e, g2, g3⟩ := h; exact ⟨_, ⟨k, j, h1, h2, g1, e, g2, rfl⟩, fresh0, g3⟩
  | fa off x =>
    simp only [vact, core] at h ⊢
    cases hx : s.val x <;> rw [hx] at h <;> simp only at h ⊢
    · exact ⟨_, rfl, fresh0, h⟩
    · exact ⟨_, ⟨h.1, rfl⟩, fresh0, h.2⟩
    · exact ⟨_, ⟨h.1, rfl⟩, fresh0, h.2⟩
  | ld ag sz x =>
    simp only [vact, core] at h ⊢
    cases hx : s.val x <;> rw [hx] at h <;> simp only at h ⊢
    · obtain ⟨l, e, h1, h2, h⟩ := h
      cases ag
      · simp only [Bool.false_eq_true, if_false] at h ⊢
        obtain ⟨c, h3, h4⟩ := h; exact ⟨_, ⟨l, e, h1, h2, c, h3, rfl⟩, fresh0, h4⟩
      · simp only [if_true] at h ⊢
        exact ⟨_, ⟨l, e, h1, h2, h.1, rfl⟩, fresh0, h.2⟩
    · cases ag
      · simp only [Bool.false_eq_true, if_false] at h ⊢
        obtain ⟨c, h3, h4⟩ := h; exact ⟨_, ⟨c, h3, rfl⟩, fresh0, h4⟩
      · simp only [if_true] at h ⊢
        exact ⟨_, ⟨h.1, rfl⟩, fresh0, h.2⟩
    · obtain ⟨g1, z, ys, g2, g3⟩ := h; exact ⟨_, ⟨g1, z, ys, g2, rfl⟩, fresh0, g3⟩
  | st sz a x => cases hk
  | box sz x =>
    obtain ⟨t, rfl, h2, h3, h4, h5, h6, h7⟩ := h
    exact ⟨_, ⟨t, rfl, h2, h3, h4, h6, rfl⟩, ⟨⟨fun h => (by cases h), fun _ => ⟨t, rfl, h5⟩⟩, noI_K0 _⟩, h7⟩
  | alloc z =>
    obtain ⟨t, rfl, h2, h3, h4, h5, h6⟩ := h
    exact ⟨_, ⟨t, rfl, h2, h3, h5, rfl⟩, ⟨⟨fun h => (by cases h), fun _ => ⟨t, rfl, h4⟩⟩, noI_K0 _⟩, h6⟩
  | bld z ps => obtain ⟨h1, cs, h2, h3⟩ := h; exact ⟨_, ⟨h1, cs, h2, rfl⟩, fresh0, h3⟩
  | bsl sz xs =>
    obtain ⟨t, rfl, h2, h3, h4⟩ := h
    exact ⟨_, ⟨t, rfl, h3, rfl⟩, ⟨⟨fun _ => ⟨t, rfl, h2⟩, fun h => (by cases h)⟩, noI_K0 _⟩, h4⟩
  | slS x lo hi => obtain ⟨b, h1, l, h', h2, h3⟩ := h; exact ⟨_, ⟨b, h1, l, h', h2, rfl⟩, fresh0, h3⟩
  | slL sz x lo hi => obtain ⟨m, z, xs, h1, h2, l, h', h3, h4⟩ := h; exact ⟨_, ⟨m, z, xs, h1, h2, l, h', h3, rfl⟩, fresh0, h4⟩
  | app sz byt x y => cases hk
  | apS x y => cases hk
  | mks sz byt z n => cases hk
  | ext x i => obtain ⟨cs, c, h1, h2, h3⟩ := h; exact ⟨_, ⟨cs, c, h1, h2, rfl⟩, fresh0, h3⟩
  | call q f as =>
    obtain rfl : q = true := hk
    obtain ⟨r, h1, h2⟩ := vcall_core h
    exact ⟨r, ⟨rfl, h1⟩, h2⟩
  | callv q x as =>
    obtain rfl : q = true := hk
    obtain ⟨f, cs, h1, h2, h3⟩ := h
    obtain ⟨r, h4, h5⟩ := vcall_core h3
    exact ⟨r, ⟨rfl, f, cs, h1, h2, h4⟩, h5⟩
  | mkf f as => exact ⟨_, rfl, fresh0, h⟩
  | cvI k x => obtain ⟨k', j, h1, h2⟩ := h; exact ⟨_, ⟨k', j, h1, rfl⟩, fresh0, h2⟩
  | b2s x => obtain ⟨m, z, xs, l, h1, h2, h3, h4⟩ := h; exact ⟨_, ⟨m, z, xs, l, h1, h2, h3, rfl⟩, fresh0, h4⟩
  | cvS x => obtain ⟨b, h1, h2⟩ := h; exact ⟨_, ⟨b, h1, rfl⟩, fresh0, h2⟩
  | isn neg x => cases hk
  | slM sz x => cases hk
  | mn x y => cases hk
  | bsb xs => cases hk
theorem core_vact {k : VK} {Q : AS → Prop} {r : Out} (h : core E s d k r) (hf : freshN s d r) (hq : Q (s.out d r)) : vact E s d Q k := by
  cases k with
  | mv x => obtain rfl := h; exact hq
  | as x => obtain rfl := h; exact hq
  | pick c a b => obtain ⟨t, h1, rfl⟩ := h; exact ⟨t, h1, hq⟩
  | bin op ty x y => obtain ⟨t, h1, rfl⟩ := h; exact ⟨t, h1, hq⟩
  | un op x => obtain ⟨t, h1, rfl⟩ := h; exact ⟨t, h1, hq⟩
  | len b x => obtain ⟨t, h1, rfl⟩ := h; exact ⟨t, h1, hq⟩
  | idx x i => obtain ⟨b, k, j, h1, h2, h3, h4, rfl⟩ := h; exact ⟨b, k, j, h1, h2, h3, h4, hq⟩
  | ia sz x i =>
    obtain ⟨k, j, h1, h2, h⟩ := h
    simp only [vact]
    refine ⟨k, j, h1, h2, ?_⟩
    cases hx : s.val x <;> rw [hx] at h <;> simp only at h ⊢
    · obtain ⟨g1, e, g2, rfl⟩ := h; exact ⟨g1, e, g2, hq⟩
    · obtain ⟨g1, g2, rfl⟩ := h; exact ⟨g1, g2, hq⟩
    · obtain ⟨g1, e, g2, rfl⟩ := h; exact ⟨g1, e, g2, hq⟩
  | fa off x =>
    simp only [vact, core] at h ⊢
    cases hx : s.val x <;> rw [hx] at h <;> simp only at h ⊢
    · obtain rfl := h; exact hq
    · obtain ⟨h1, rfl⟩ := h; exact ⟨h1, hq⟩
    · obtain ⟨h1, rfl⟩ := h; exact ⟨h1, hq⟩
  | ld ag sz x =>
    simp only [vact, core] at h ⊢
    cases hx : s.val x <;> rw [hx] at h <;> simp only at h ⊢
    · obtain ⟨l, e, h1, h2, h⟩ := h
      cases ag
      · simp only [Bool.false_eq_true, if_false] at h ⊢
        obtain ⟨c, h3, rfl⟩ := h; exact ⟨l, e, h1, h2, c, h3, hq⟩
      · simp only [if_true] at h ⊢
        obtain ⟨h3, rfl⟩ := h
        exact ⟨l, e, h1, h2, h3, hq⟩
    · cases ag
      · simp only [Bool.false_eq_true, if_false] at h ⊢
        obtain ⟨c, h3, rfl⟩ := h; exact ⟨c, h3, hq⟩
      · simp only [if_true] at h ⊢
        obtain ⟨h3, rfl⟩ := h
        exact ⟨h3, hq⟩
    · obtain ⟨g1, z, ys, g2, rfl⟩ := h; exact ⟨g1, z, ys, g2, hq⟩
  | st sz a x => cases h
  | box sz x =>
    obtain ⟨t, rfl, h2, h3, h4, h6, rfl⟩ := h
    obtain ⟨t', e, h5⟩ := hf.1.2 rfl
    obtain rfl := Option.some.inj e
    exact ⟨t, rfl, h2, h3, h4, h5, h6, hq⟩
  | alloc z =>
    obtain ⟨t, rfl, h2, h3, h5, rfl⟩ := h
    obtain ⟨t', e, h4⟩ := hf.1.2 rfl
    obtain rfl := Option.some.inj e
    exact ⟨t, rfl, h2, h3, h4, h5, hq⟩
  | bld z ps => obtain ⟨h1, cs, h2, rfl⟩ := h; exact ⟨h1, cs, h2, hq⟩
  | bsl sz xs =>
    obtain ⟨t, rfl, h3, rfl⟩ := h
    obtain ⟨t', e, h2⟩ := hf.1.1 rfl
    obtain rfl := Option.some.inj e
    exact ⟨t, rfl, h2, h3, hq⟩
  | slS x lo hi => obtain ⟨b, h1, l, h', h2, rfl⟩ := h; exact ⟨b, h1, l, h', h2, hq⟩
  | slL sz x lo hi => obtain ⟨m, z, xs, h1, h2, l, h', h3, rfl⟩ := h; exact ⟨m, z, xs, h1, h2, l, h', h3, hq⟩
  | app sz byt x y => cases h
  | apS x y => cases h
  | mks sz byt z n => cases h
  | ext x i => obtain ⟨cs, c, h1, h2, rfl⟩ := h; exact ⟨cs, c, h1, h2, hq⟩
  | call q f as => obtain ⟨rfl, h⟩ := h; exact core_vcall h hf hq
  | callv q x as => obtain ⟨rfl, f, cs, h1, h2, h⟩ := h; exact ⟨f, cs, h1, h2, core_vcall h hf hq⟩
  | mkf f as => obtain rfl := h; exact hq
  | cvI k x => obtain ⟨k', j, h1, rfl⟩ := h; exact ⟨k', j, h1, hq⟩
  | b2s x => obtain ⟨m, z, xs, l, h1, h2, h3, rfl⟩ := h; exact ⟨m, z, xs, l, h1, h2, h3, hq⟩
  | cvS x => obtain ⟨b, h1, rfl⟩ := h; exact ⟨b, h1, hq⟩
  | isn neg x => cases h
  | slM sz x => cases h
  | mn x y => cases h
  | bsb xs => cases h
/-! what an operation looks at -/
theorem val_congr {s s' : AS} : ∀ {x : Od}, (∀ u ∈ odT x, s'.get u = s.get u) → s'.val x = s.val x
  | .t n, h => h n (by simp [odT])
  | .c x, _ => rfl
theorem vals_congr {s s' : AS} : ∀ {xs : List Od}, (∀ u ∈ xs.flatMap odT, s'.get u = s.get u) → s'.vals xs = s.vals xs
  | [], _ => rfl
  | x :: xs, h => by
    simp only [AS.vals]
    rw [val_congr fun u hu => h u (by simp [hu]), vals_congr fun u hu => h u (by rw [List.flatMap_cons]; exact List.mem_append_right _ hu)]
theorem pvals_congr {s s' : AS} : ∀ {ps : List (Nat × Nat × Od)}, (∀ u ∈ ps.flatMap (fun p => odT p.2.2), s'.get u = s.get u) → pvals s' ps = pvals s ps
  | [], _ => rfl
  | (o, n, x) :: ps, h => by
    simp only [pvals]
    rw [val_congr fun u hu => h u (by simp [hu]), pvals_congr fun u hu => h u (by rw [List.flatMap_cons]; exact List.mem_append_right _ hu)]
theorem cutB_congr {s s' : AS} {n : Nat} {lo hi : Option Od} (h : ∀ u ∈ lo.toList.flatMap odT ++ hi.toList.flatMap odT, s'.get u = s.get u) : cutB s' n lo hi = cutB s n lo hi := by
  unfold cutB
  cases lo with
  | none =>
    cases hi with
    | none => rfl
    | some y => simp only [val_congr (s := s) (s' := s') (x := y) fun u hu => h u (by simp [hu])]
  | some z =>
    have hz := val_congr (s := s) (s' := s') (x := z) fun u hu => h u (by simp [hu])
    cases hi with
    | none => simp only [hz]
    | some y => simp only [hz, val_congr (s := s) (s' := s') (x := y) fun u hu => h u (by simp [hu])]
theorem core_congr {s s' : AS} {k : VK} {r : Out} (h : core E s d k r) (hg : ∀ u ∈ k.looks, s'.get u = s.get u) (hb : ∀ (ag : Bool) (sz : Nat) (x : Od), k = .ld ag sz x → ∀ n i o, s.val x = .ptr n i o → look s'.bxs n = look s.bxs n) : core E s' d k r := by
  have one : ∀ x : Od, (∀ u ∈ odT x, u ∈ k.looks) → s'.val x = s.val x := fun x hx => val_congr fun u hu => hg u (hx u hu)
  have all : ∀ xs : List Od, (∀ u ∈ xs.flatMap odT, u ∈ k.looks) → s'.vals xs = s.vals xs := fun x hx => vals_congr fun u hu => hg u (hx u hu)
  have cut : ∀ n (lo hi : Option Od), (∀ u ∈ lo.toList.flatMap odT ++ hi.toList.flatMap odT, u ∈ k.looks) → cutB s' n lo hi = cutB s n lo hi := fun n lo hi hx => cutB_congr fun u hu => hg u (hx u hu)
  cases k with
  | as x => simp only [core] at h ⊢; rw [one x (by intro u hu; exact hu)]; exact h
  | st sz a x => cases h
  | app sz byt x y => cases h
  | apS x y => cases h
  | mks sz byt z n => cases h
  | isn neg x => cases h
  | slM sz x => cases h
  | mn x y => cases h
  | bsb xs => cases h
  | alloc z => exact h
  | ld ag sz x =>
    have e := one x (fun u hu => hu)
    simp only [core] at h ⊢
    rw [e]
    cases hx : s.val x <;> rw [hx] at h <;> simp only at h ⊢
    · rw [hb ag sz x rfl _ _ _ hx]; exact h
    · exact h
    · exact h
  | pick c a b => simp only [core] at h ⊢; rw [one c (by intro u hu; simp [VK.looks, hu]), one a (by intro u hu; simp [VK.looks, hu]), one b (by intro u hu; simp [VK.looks, hu])]; exact h
  | bin op ty x y => simp only [core] at h ⊢; rw [one x (by intro u hu; simp [VK.looks, hu]), one y (by intro u hu; simp [VK.looks, hu])]; exact h
  | idx x y => simp only [core] at h ⊢; rw [one x (by intro u hu; simp [VK.looks, hu]), one y (by intro u hu; simp [VK.looks, hu])]; exact h
  | ia sz x y => simp only [core] at h ⊢; rw [one x (by intro u hu; simp [VK.looks, hu]), one y (by intro u hu; simp [VK.looks, hu])]; exact h
  | bld z ps => simp only [core] at h ⊢; rw [pvals_congr (s := s) (s' := s') fun u hu => hg u hu]; exact h
  | bsl sz xs => simp only [core] at h ⊢; rw [all xs fun u hu => hu]; exact h
  | call q f as => simp only [core] at h ⊢; rw [all as fun u hu => hu]; exact h
  | mkf f as => simp only [core] at h ⊢; rw [all as fun u hu => hu]; exact h
  | callv q x as => simp only [core] at h ⊢; rw [one x (by intro u hu; simp [VK.looks, hu]), all as (by intro u hu; exact List.mem_append_right _ hu)]; exact h
  | slS x lo hi =>
    simp only [core] at h ⊢
    rw [one x (by intro u hu; simp [VK.looks, hu])]
    obtain ⟨b, h1, l, h', h2, h3⟩ := h
    exact ⟨b, h1, l, h', by rw [cut _ lo hi (by intro u hu; simp only [VK.looks, List.append_assoc]; exact List.mem_append_right _ hu)]; exact h2, h3⟩
  | slL sz x lo hi =>
    simp only [core] at h ⊢
    rw [one x (by intro u hu; simp [VK.looks, hu])]
    obtain ⟨m, z, xs, h1, h2, l, h', h3, h4⟩ := h
    exact ⟨m, z, xs, h1, h2, l, h', by rw [cut _ lo hi (by intro u hu; simp only [VK.looks, List.append_assoc]; exact List.mem_append_right _ hu)]; exact h3, h4⟩
  | mv x => simp only [core] at h ⊢; rw [one x (by intro u hu; exact hu)]; exact h
  | un op x => simp only [core] at h ⊢; rw [one x (by intro u hu; exact hu)]; exact h
  | len op x => simp only [core] at h ⊢; rw [one x (by intro u hu; exact hu)]; exact h
  | fa op x => simp only [core] at h ⊢; rw [one x (by intro u hu; exact hu)]; exact h
  | box op x => simp only [core] at h ⊢; rw [one x (by intro u hu; exact hu)]; exact h
  | ext x op => simp only [core] at h ⊢; rw [one x (by intro u hu; exact hu)]; exact h
  | cvI op x => simp only [core] at h ⊢; rw [one x (by intro u hu; exact hu)]; exact h
  | b2s x => simp only [core] at h ⊢; rw [one x (by intro u hu; exact hu)]; exact h
  | cvS x => simp only [core] at h ⊢; rw [one x (by intro u hu; exact hu)]; exact h
end
end Go.Proofs.YticockdhfglolaaGreatDoor.Vm
/- An abstract machine over values: the orders of a region, third part: two operations change places. -/
namespace Go.Proofs.YticockdhfglolaaGreatDoor.Vm
open Go Go.RowKit
set_option linter.unusedVariables false
set_option linter.unusedSimpArgs false
/-- its classes and its boxes -/
def ok1 (pc pb : Nat → Bool) : AV → Bool
  | .sl m _ _ => match m.ap with
    | .cl c => pc c
    | _ => true
  | .ptr n _ _ => pb n
  | .bs n _ _ => pb n
  | .agg cs => okL pc pb cs
  | .tup cs => okL pc pb cs
  | .fn _ cs => okL pc pb cs
  | _ => true
where okL (pc pb : Nat → Bool) : List AV → Bool
  | [] => true
  | c :: cs => ok1 pc pb c && okL pc pb cs
theorem ok1_noC (d : Nat) : ∀ (c : AV), noC d c = ok1 (fun k => k / 64 != d) (fun _ => true) c := by
  intro c
  refine AV.rec (motive_1 := fun c => noC d c = ok1 (fun k => k / 64 != d) (fun _ => true) c) (motive_2 := fun cs => noC.noL d cs = ok1.okL (fun k => k / 64 != d) (fun _ => true) cs) ?_ ?_ ?_ ?_ ?_ ?_ ?_ ?_ ?_ ?_ ?_ ?_ ?_ c
  all_goals (intros; try rfl)
  all_goals (simp only [noC, ok1, noC.noL, ok1.okL]; try assumption)
  all_goals simp_all
theorem okL_noC (d : Nat) : ∀ (cs : List AV), noC.noL d cs = ok1.okL (fun k => k / 64 != d) (fun _ => true) cs
  | [] => rfl
  | c :: cs => by simp only [noC.noL, ok1.okL, ok1_noC, okL_noC d cs]
theorem ok1_noB (d : Nat) : ∀ (c : AV), noB d c = ok1 (fun _ => true) (fun k => k != d) c := by
  intro c
  refine AV.rec (motive_1 := fun c => noB d c = ok1 (fun _ => true) (fun k => k != d) c) (motive_2 := fun cs => noB.noL d cs = ok1.okL (fun _ => true) (fun k => k != d) cs) ?_ ?_ ?_ ?_ ?_ ?_ ?_ ?_ ?_ ?_ ?_ ?_ ?_ c
  all_goals (intros; try rfl)
  all_goals (simp only [noB, ok1, noB.noL, ok1.okL]; try assumption)
  all_goals (first | (split <;> rfl) | simp_all)
theorem okL_noB (d : Nat) : ∀ (cs : List AV), noB.noL d cs = ok1.okL (fun _ => true) (fun k => k != d) cs
  | [] => rfl
  | c :: cs => by simp only [noB.noL, ok1.okL, ok1_noB, okL_noB d cs]
section
variable {pc pb : Nat → Bool}
theorem okL_iff : ∀ {cs : List AV}, ok1.okL pc pb cs = true ↔ ∀ c ∈ cs, ok1 pc pb c = true
  | [] => by simp [ok1.okL]
  | c :: cs => by simp [ok1.okL, okL_iff (cs := cs)]
theorem okL_cells {c : AV} (h : ok1 pc pb c = true) : ok1.okL pc pb c.cells = true := by
  cases c with
  | agg cs => simpa only [ok1, AV.cells] using h
  | _ => simp only [AV.cells, ok1.okL, h, Bool.and_true]
theorem okL_sub {cs ds : List AV} (h : ok1.okL pc pb cs = true) (hs : ∀ c ∈ ds, c ∈ cs) : ok1.okL pc pb ds = true := okL_iff.2 fun c hc => okL_iff.1 h c (hs c hc)
theorem ok1_mkF (b : Bool) : ∀ (c : AV), ok1 pc pb (mkF b c) = true := by
  intro c
  refine AV.rec (motive_1 := fun c => ok1 pc pb (mkF b c) = true) (motive_2 := fun cs => ok1.okL pc pb (mkF.mkL b cs) = true) ?_ ?_ ?_ ?_ ?_ ?_ ?_ ?_ ?_ ?_ ?_ ?_ ?_ c
  all_goals (intros; try rfl)
  · rename_i m sz xs _; obtain ⟨ap, fr⟩ := m; cases ap <;> rfl
  all_goals (simp only [mkF, ok1, mkF.mkL, ok1.okL]; try assumption)
  all_goals simp_all
theorem okL_mkL (b : Bool) (cs : List AV) : ok1.okL pc pb (mkF.mkL b cs) = true := okL_iff.2 fun c hc => by
  obtain ⟨j, hj, rfl⟩ := List.getElem_of_mem hc
  have := List.getElem?_eq_getElem hj
  rw [mkL_get] at this
  obtain ⟨e, _, he⟩ := Option.map_eq_some_iff.1 this
  rw [← he]
  exact ok1_mkF b e
theorem ok1_relab {t : Nat} {b : Bool} (ht : ∀ c, c < 64 → pc (64 * t + c) = true) : ∀ (c : AV), resOk c = true → ok1 pc pb (relab t b c) = true := by
  intro c
  refine AV.rec (motive_1 := fun c => resOk c = true → ok1 pc pb (relab t b c) = true) (motive_2 := fun cs => resOk.resL cs = true → ok1.okL pc pb (relab.relabL t b cs) = true) ?_ ?_ ?_ ?_ ?_ ?_ ?_ ?_ ?_ ?_ ?_ ?_ ?_ c
  all_goals (intros; try rfl)
  · rename_i m sz xs _ h
    obtain ⟨ap, fr⟩ := m
    cases ap <;> try rfl
    simp only [resOk, decide_eq_true_eq] at h
    simp only [relab, ok1]
    exact ht _ h
  · rename_i cs ih h
    simp only [relab, ok1]
    exact ih (by simpa only [resOk] using h)
  · rename_i cs ih h
    simp only [relab, ok1]
    exact ih (by simpa only [resOk] using h)
  · rename_i h; cases h
  · rename_i h; cases h
  · rename_i h; cases h
  · rename_i c cs h1 h2 h
    simp only [resOk.resL, Bool.and_eq_true] at h
    simp only [relab.relabL, ok1.okL, h1 h.1, h2 h.2, Bool.and_self]
/-- no name, wherever -/
def noN : AV → Bool
  | .sl m _ xs => (match m.ap with
    | .id _ => false
    | _ => true) && noNL xs
  | .agg cs => noNL cs
  | .tup cs => noNL cs
  | .ep _ cs => noNL cs
  | .fn _ cs => noNL cs
  | _ => true
where noNL : List AV → Bool
  | [] => true
  | c :: cs => noN c && noNL cs
theorem noI_noN {p : Nat → Prop} : ∀ (a : AV), noN a = true → noI p a := by
  intro a
  refine AV.rec (motive_1 := fun a => noN a = true → noI p a) (motive_2 := fun l => noN.noNL l = true → noI.noIL p l) ?_ ?_ ?_ ?_ ?_ ?_ ?_ ?_ ?_ ?_ ?_ ?_ ?_ a
  all_goals (intros; first | trivial | skip)
  · rename_i m sz xs ih h
    simp only [noN, Bool.and_eq_true] at h
    refine ⟨fun k hk => ?_, ih h.2⟩
    rw [hk] at h
    cases h.1
  · rename_i cs ih h; exact ih (by simpa only [noN] using h)
  · rename_i cs ih h; exact ih (by simpa only [noN] using h)
  · rename_i b cs ih h; exact ih (by simpa only [noN] using h)
  · rename_i f cs ih h; exact ih (by simpa only [noN] using h)
  · rename_i c cs h1 h2 h
    simp only [noN.noNL, Bool.and_eq_true] at h
    exact ⟨h1 h.1, h2 h.2⟩
/-- constants know no classes, no boxes and no names -/
def plain (c : AV) : Bool := ok1 (fun _ => false) (fun _ => false) c && noN c
theorem plain_ok1 : ∀ (c : AV), plain c = true → ok1 pc pb c = true := by
  intro c
  unfold plain
  rw [Bool.and_eq_true]
  rintro ⟨h, _⟩
  revert h
  refine AV.rec (motive_1 := fun c => ok1 (fun _ => false) (fun _ => false) c = true → ok1 pc pb c = true) (motive_2 := fun cs => ok1.okL (fun _ => false) (fun _ => false) cs = true → ok1.okL pc pb cs = true) ?_ ?_ ?_ ?_ ?_ ?_ ?_ ?_ ?_ ?_ ?_ ?_ ?_ c
  all_goals (intros; try rfl)
  · rename_i m sz xs _ h
    obtain ⟨ap, fr⟩ := m
    cases ap <;> try rfl
    cases h
  · rename_i cs ih h; simp only [ok1] at h ⊢; exact ih h
  · rename_i cs ih h; simp only [ok1] at h ⊢; exact ih h
  · rename_i h; cases h
  · rename_i cs ih h; simp only [ok1] at h ⊢; exact ih h
  · rename_i h; cases h
  · rename_i c cs h1 h2 h
    simp only [ok1.okL, Bool.and_eq_true] at h ⊢
    exact ⟨h1 h.1, h2 h.2⟩
def odP : Od → Bool
  | .t _ => true
  | .c x => plain x
/-- its constants are plain; a load's place is a variable -/
def VK.pl : VK → Bool
  | .ld _ _ x => match x with
    | .t _ => true
    | .c _ => false
  | .mv x | .as x | .un _ x | .len _ x | .fa _ x | .box _ x | .mks _ _ _ x | .ext x _ | .cvI _ x | .b2s x | .cvS x | .isn _ x | .slM _ x => odP x
  | .pick c a b => odP c && odP a && odP b
  | .bin _ _ x y | .idx x y | .ia _ x y | .st _ x y | .app _ _ x y | .mn x y | .apS x y => odP x && odP y
  | .alloc z => plain z
  | .bld z ps => z.all plain && ps.all fun p => odP p.2.2
  | .bsl _ xs | .bsb xs | .call _ _ xs | .mkf _ xs => xs.all odP
  | .callv _ x xs => odP x && xs.all odP
  | .slS x _ _ | .slL _ x _ _ => odP x
variable {E : EnvK} {s : AS} {d : Option Nat}
theorem ok1_val {x : Od} (hx : odP x = true) (hg : ∀ u ∈ odT x, ok1 pc pb (s.get u) = true) : ok1 pc pb (s.val x) = true := by
  cases x with
  | t n => exact hg n (by simp [odT])
  | c x => exact plain_ok1 x hx
theorem okL_vals : ∀ {xs : List Od}, xs.all odP = true → (∀ u ∈ xs.flatMap odT, ok1 pc pb (s.get u) = true) → ok1.okL pc pb (s.vals xs) = true
  | [], _, _ => rfl
  | x :: xs, hx, hg => by
    simp only [List.all_cons, Bool.and_eq_true] at hx
    simp only [AS.vals, ok1.okL]
    rw [ok1_val hx.1 fun u hu => hg u (by simp [hu]), okL_vals hx.2 fun u hu => hg u (by rw [List.flatMap_cons]; exact List.mem_append_right _ hu)]
    rfl
theorem okL_fill : ∀ {ps : List (Nat × Nat × Od)} {z cs : List AV}, fill z (pvals s ps) = some cs → ok1.okL pc pb z = true → (ps.all fun p => odP p.2.2) = true → (∀ u ∈ ps.flatMap (fun p => odT p.2.2), ok1 pc pb (s.get u) = true) → ok1.okL pc pb cs = true
  | [], z, cs, h, hz, _, _ => by obtain rfl := Option.some.inj h; exact hz
  | (o, n, x) :: ps, z, cs, h, hz, hp, hg => by
    simp only [List.all_cons, Bool.and_eq_true] at hp
    simp only [pvals, fill] at h
    split at h
    · refine okL_fill h ?_ hp.2 fun u hu => hg u (by rw [List.flatMap_cons]; exact List.mem_append_right _ hu)
      have hv := okL_cells (ok1_val (s := s) hp.1 fun u hu => hg u (by simp [hu]))
      refine okL_iff.2 fun c hc => ?_
      unfold upd at hc
      rcases List.mem_append.1 hc with hc | hc
      · rcases List.mem_append.1 hc with hc | hc
        · exact okL_iff.1 hz c (List.mem_of_mem_take hc)
        · exact okL_iff.1 hv c hc
      · exact okL_iff.1 hz c (List.mem_of_mem_drop hc)
    · cases h
theorem ccall_ok1 {f : Nat} {vs : List AV} {r : Out} (h : ccall E d f vs r) (ht : ∀ t, d = some t → ∀ c, c < 64 → pc (64 * t + c) = true) : ok1 pc pb r.v = true ∧ ∀ l, r.nb = some l → ok1.okL pc pb l = true := by
  obtain ⟨_, _, t, rfl, K, y, _, _, _, hF, rfl⟩ := h
  exact ⟨ok1_relab (ht t rfl) y hF.2.1, fun l hl => (by cases hl)⟩
theorem core_ok1 {k : VK} {r : Out} (h : core E s d k r) (hk : k.pl = true) (hg : ∀ u ∈ k.looks, ok1 pc pb (s.get u) = true) (hb : ∀ n l, look s.bxs n = some l → ok1.okL pc pb l = true) (ht : ∀ t, d = some t → ∀ c, c < 64 → pc (64 * t + c) = true) (hn : ∀ t, d = some t → pb (1000000000000 + t) = true) : ok1 pc pb r.v = true ∧ ∀ l, r.nb = some l → ok1.okL pc pb l = true := by
  have non : ∀ l : List AV, (none : Option (List AV)) = some l → ok1.okL pc pb l = true := fun l hl => (by cases hl)
  have one : ∀ x : Od, odP x = true → (∀ u ∈ odT x, u ∈ k.looks) → ok1 pc pb (s.val x) = true := fun x hp hx => ok1_val hp fun u hu => hg u (hx u hu)
  cases k with
  | as x => obtain rfl := h; exact ⟨one x hk fun u hu => hu, non⟩
  | mv x => obtain rfl := h; exact ⟨one x hk fun u hu => hu, non⟩
  | st sz a x => cases h
  | app sz byt x y => cases h
  | apS x y => cases h
  | mks sz byt z n => cases h
  | isn neg x => cases h
  | slM sz x => cases h
  | mn x y => cases h
  | bsb xs => cases h
  | pick c a b =>
    simp only [VK.pl, Bool.and_eq_true] at hk
    obtain ⟨t, _, rfl⟩ := h
    refine ⟨?_, non⟩
    show ok1 pc pb (if t = true then s.val a else s.val b) = true
    split
    · exact one a hk.1.2 fun u hu => by simp [VK.looks, hu]
    · exact one b hk.2 fun u hu => by simp [VK.looks, hu]
  | bin op ty x y => obtain ⟨_, _, rfl⟩ := h; exact ⟨rfl, non⟩
  | un op x => obtain ⟨_, _, rfl⟩ := h; exact ⟨rfl, non⟩
  | len op x => obtain ⟨_, _, rfl⟩ := h; exact ⟨rfl, non⟩
  | idx x i => obtain ⟨_, _, _, _, _, _, _, rfl⟩ := h; exact ⟨rfl, non⟩
  | ia sz x i =>
    simp only [VK.pl, Bool.and_eq_true] at hk
    have hx := one x hk.1 fun u hu => by simp [VK.looks, hu]
    obtain ⟨k, j, h1, h2, h⟩ := h
    cases e : s.val x <;> rw [e] at h hx <;> simp only at h
    · obtain ⟨g1, e, g2, rfl⟩ := h; exact ⟨rfl, non⟩
    · obtain ⟨g1, g2, rfl⟩ := h; exact ⟨hx, non⟩
    · obtain ⟨g1, e, g2, rfl⟩ := h; exact ⟨rfl, non⟩
  | fa off x =>
    have hx := one x hk fun u hu => hu
    simp only [core] at h
    cases e : s.val x <;> rw [e] at h hx <;> simp only at h
    · obtain rfl := h; exact ⟨hx, non⟩
    · obtain ⟨_, rfl⟩ := h; exact ⟨rfl, non⟩
    · obtain ⟨_, rfl⟩ := h; exact ⟨rfl, non⟩
  | ld ag sz x =>
    simp only [core] at h
    cases e : s.val x <;> rw [e] at h <;> simp only at h
    · obtain ⟨l, el, h1, h2, h⟩ := h
      have hel := okL_cells (okL_iff.1 (hb _ l h1) el (List.mem_of_getElem? h2))
      cases ag
      · simp only [Bool.false_eq_true, if_false] at h
        obtain ⟨c, h3, rfl⟩ := h
        exact ⟨okL_iff.1 hel c (List.mem_of_getElem? h3), non⟩
      · simp only [if_true] at h
        obtain ⟨h3, rfl⟩ := h
        refine ⟨?_, non⟩
        simp only [ok1]
        exact okL_sub hel fun c hc => List.mem_of_mem_drop (List.mem_of_mem_take hc)
    · cases ag
      · simp only [Bool.false_eq_true, if_false] at h
        obtain ⟨c, h3, rfl⟩ := h; exact ⟨ok1_mkF _ _, non⟩
      · simp only [if_true] at h
        obtain ⟨h3, rfl⟩ := h
        refine ⟨?_, non⟩
        simp only [ok1]
        exact okL_mkL _ _
    · obtain ⟨_, z, ys, h3, rfl⟩ := h; exact ⟨rfl, non⟩
  | box sz x =>
    obtain ⟨t, rfl, _, _, _, _, rfl⟩ := h
    refine ⟨hn t rfl, fun l hl => ?_⟩
    obtain rfl := Option.some.inj hl
    simp only [ok1.okL, one x hk fun u hu => hu, Bool.and_true]
  | alloc z =>
    obtain ⟨t, rfl, _, _, _, rfl⟩ := h
    refine ⟨hn t rfl, fun l hl => ?_⟩
    obtain rfl := Option.some.inj hl
    simp only [ok1.okL, plain_ok1 z hk, Bool.and_true]
  | bld z ps =>
    simp only [VK.pl, Bool.and_eq_true] at hk
    obtain ⟨_, cs, h2, rfl⟩ := h
    refine ⟨?_, non⟩
    simp only [ok1]
    exact okL_fill h2 (okL_iff.2 fun c hc => plain_ok1 c (List.all_eq_true.1 hk.1 c hc)) hk.2 fun u hu => hg u hu
  | bsl sz xs =>
    obtain ⟨t, rfl, _, rfl⟩ := h
    exact ⟨ht t rfl 0 (by omega), non⟩
  | slS x lo hi => obtain ⟨_, _, _, _, _, rfl⟩ := h; exact ⟨rfl, non⟩
  | slL sz x lo hi =>
    obtain ⟨m, z, xs, h1, _, _, _, _, rfl⟩ := h
    have hx := one x hk fun u hu => by simp [VK.looks, hu]
    rw [h1] at hx
    refine ⟨?_, non⟩
    obtain ⟨ap, fr⟩ := m
    cases hi with
    | none => cases ap <;> first | rfl | (simpa only [isNone, if_true, ok1, noOw] using hx)
    | some _ => rfl
  | ext x i =>
    obtain ⟨cs, c, h1, h2, rfl⟩ := h
    have hx := one x hk fun u hu => hu
    rw [h1] at hx
    simp only [ok1] at hx
    exact ⟨okL_iff.1 hx c (List.mem_of_getElem? h2), non⟩
  | call q f as => exact ccall_ok1 h.2 ht
  | callv q x as => obtain ⟨_, f, cs, _, _, h⟩ := h; exact ccall_ok1 h ht
  | mkf f as => obtain rfl := h; refine ⟨?_, non⟩; simp only [ok1]; exact okL_vals hk fun u hu => hg u hu
  | cvI k x => obtain ⟨_, _, _, rfl⟩ := h; exact ⟨rfl, non⟩
  | b2s x => obtain ⟨_, _, _, _, _, _, _, rfl⟩ := h; exact ⟨rfl, non⟩
  | cvS x => obtain ⟨_, _, rfl⟩ := h; exact ⟨rfl, non⟩
/-- a new box goes with a new label -/
theorem core_nb {k : VK} {r : Out} (h : core E s d k r) : r.nb = none ∨ r.fk = 2 := by
  cases k with
  | mv x => obtain rfl := h; exact .inl rfl
  | as x => obtain rfl := h; exact .inl rfl
  | pick c a b => obtain ⟨_, _, rfl⟩ := h; exact .inl rfl
  | bin op ty x y => obtain ⟨_, _, rfl⟩ := h; exact .inl rfl
  | un op x => obtain ⟨_, _, rfl⟩ := h; exact .inl rfl
  | len op x => obtain ⟨_, _, rfl⟩ := h; exact .inl rfl
  | idx x i => obtain ⟨_, _, _, _, _, _, _, rfl⟩ := h; exact .inl rfl
  | ia sz x i =>
    obtain ⟨k, j, h1, h2, h⟩ := h
    cases e : s.val x <;> rw [e] at h <;> simp only at h
    · obtain ⟨g1, e, g2, rfl⟩ := h; exact .inl rfl
    · obtain ⟨g1, g2, rfl⟩ := h; exact .inl rfl
    · obtain ⟨g1, e, g2, rfl⟩ := h; exact .inl rfl
  | fa off x =>
    simp only [core] at h
    cases e : s.val x <;> rw [e] at h <;> simp only at h
    · obtain rfl := h; exact .inl rfl
    · obtain ⟨_, rfl⟩ := h; exact .inl rfl
    · obtain ⟨_, rfl⟩ := h; exact .inl rfl
  | ld ag sz x =>
    simp only [core] at h
    cases e : s.val x <;> rw [e] at h <;> simp only at h
    · obtain ⟨l, el, h1, h2, h⟩ := h
      cases ag
      · simp only [Bool.false_eq_true, if_false] at h
        obtain ⟨c, h3, rfl⟩ := h; exact .inl rfl
      · simp only [if_true] at h
        obtain ⟨h3, rfl⟩ := h; exact .inl rfl
    · cases ag
      · simp only [Bool.false_eq_true, if_false] at h
        obtain ⟨c, h3, rfl⟩ := h; exact .inl rfl
      · simp only [if_true] at h
        obtain ⟨h3, rfl⟩ := h; exact .inl rfl
    · obtain ⟨_, z, ys, h3, rfl⟩ := h; exact .inl rfl
  | st sz a x => cases h
  | app sz byt x y => cases h
  | apS x y => cases h
  | mks sz byt z n => cases h
  | isn neg x => cases h
  | slM sz x => cases h
  | mn x y => cases h
  | bsb xs => cases h
  | box sz x => obtain ⟨t, rfl, _, _, _, _, rfl⟩ := h; exact .inr rfl
  | alloc z => obtain ⟨t, rfl, _, _, _, rfl⟩ := h; exact .inr rfl
  | bld z ps => obtain ⟨_, cs, h2, rfl⟩ := h; exact .inl rfl
  | bsl sz xs => obtain ⟨t, rfl, _, rfl⟩ := h; exact .inl rfl
  | slS x lo hi => obtain ⟨_, _, _, _, _, rfl⟩ := h; exact .inl rfl
  | slL sz x lo hi => obtain ⟨m, z, xs, h1, _, _, _, _, rfl⟩ := h; exact .inl rfl
  | ext x i => obtain ⟨cs, c, h1, h2, rfl⟩ := h; exact .inl rfl
  | call q f as => obtain ⟨_, _, _, t, rfl, K, y, _, _, _, hF, rfl⟩ := h; exact .inl rfl
  | callv q x as => obtain ⟨_, f, cs, _, _, _, _, t, rfl, K, y, _, _, _, hF, rfl⟩ := h; exact .inl rfl
  | mkf f as => obtain rfl := h; exact .inl rfl
  | cvI k x => obtain ⟨_, _, _, rfl⟩ := h; exact .inl rfl
  | b2s x => obtain ⟨_, _, _, _, _, _, _, rfl⟩ := h; exact .inl rfl
  | cvS x => obtain ⟨_, _, rfl⟩ := h; exact .inl rfl
/-- may need a new label -/
def VK.mayFresh : VK → Bool
  | .call _ _ _ | .callv _ _ _ | .bsl _ _ | .box _ _ | .alloc _ => true
  | _ => false
theorem core_fk {k : VK} {r : Out} (h : core E s d k r) (hk : k.mayFresh = false) : r.fk = 0 ∧ r.K = K0 := by
  cases k with
  | mv x => obtain rfl := h; exact ⟨rfl, rfl⟩
  | as x => obtain rfl := h; exact ⟨rfl, rfl⟩
  | pick c a b => obtain ⟨_, _, rfl⟩ := h; exact ⟨rfl, rfl⟩
  | bin op ty x y => obtain ⟨_, _, rfl⟩ := h; exact ⟨rfl, rfl⟩
  | un op x => obtain ⟨_, _, rfl⟩ := h; exact ⟨rfl, rfl⟩
  | len op x => obtain ⟨_, _, rfl⟩ := h; exact ⟨rfl, rfl⟩
  | idx x i => obtain ⟨_, _, _, _, _, _, _, rfl⟩ := h; exact ⟨rfl, rfl⟩
  | ia sz x i =>
    obtain ⟨k, j, h1, h2, h⟩ := h
    cases e : s.val x <;> rw [e] at h <;> simp only at h
    · obtain ⟨g1, e, g2, rfl⟩ := h; exact ⟨rfl, rfl⟩
    · obtain ⟨g1, g2, rfl⟩ := h; exact ⟨rfl, rfl⟩
    · obtain ⟨g1, e, g2, rfl⟩ := h; exact ⟨rfl, rfl⟩
  | fa off x =>
    simp only [core] at h
    cases e : s.val x <;> rw [e] at h <;> simp only at h
    · obtain rfl := h; exact ⟨rfl, rfl⟩
    · obtain ⟨_, rfl⟩ := h; exact ⟨rfl, rfl⟩
    · obtain ⟨_, rfl⟩ := h; exact ⟨rfl, rfl⟩
  | ld ag sz x =>
    simp only [core] at h
    cases e : s.val x <;> rw [e] at h <;> simp only at h
    · obtain ⟨l, el, h1, h2, h⟩ := h
      cases ag
      · simp only [Bool.false_eq_true, if_false] at h
        obtain ⟨c, h3, rfl⟩ := h; exact ⟨rfl, rfl⟩
      · simp only [if_true] at h
        obtain ⟨h3, rfl⟩ := h; exact ⟨rfl, rfl⟩
    · cases ag
      · simp only [Bool.false_eq_true, if_false] at h
        obtain ⟨c, h3, rfl⟩ := h; exact ⟨rfl, rfl⟩
      · simp only [if_true] at h
        obtain ⟨h3, rfl⟩ := h; exact ⟨rfl, rfl⟩
    · obtain ⟨_, z, ys, h3, rfl⟩ := h; exact ⟨rfl, rfl⟩
  | st sz a x => cases h
  | app sz byt x y => cases h
  | apS x y => cases h
  | mks sz byt z n => cases h
  | isn neg x => cases h
  | slM sz x => cases h
  | mn x y => cases h
  | bsb xs => cases h
  | box sz x => cases hk
  | alloc z => cases hk
  | bld z ps => obtain ⟨_, cs, h2, rfl⟩ := h; exact ⟨rfl, rfl⟩
  | bsl sz xs => cases hk
  | slS x lo hi => obtain ⟨_, _, _, _, _, rfl⟩ := h; exact ⟨rfl, rfl⟩
  | slL sz x lo hi => obtain ⟨m, z, xs, h1, _, _, _, _, rfl⟩ := h; exact ⟨rfl, rfl⟩
  | ext x i => obtain ⟨cs, c, h1, h2, rfl⟩ := h; exact ⟨rfl, rfl⟩
  | call q f as => cases hk
  | callv q x as => cases hk
  | mkf f as => obtain rfl := h; exact ⟨rfl, rfl⟩
  | cvI k x => obtain ⟨_, _, _, rfl⟩ := h; exact ⟨rfl, rfl⟩
  | b2s x => obtain ⟨_, _, _, _, _, _, _, rfl⟩ := h; exact ⟨rfl, rfl⟩
  | cvS x => obtain ⟨_, _, rfl⟩ := h; exact ⟨rfl, rfl⟩
/-! names in what an operation gives -/
variable {p : Nat → Prop}
theorem noIL_iff : ∀ {cs : List AV}, noI.noIL p cs ↔ ∀ c ∈ cs, noI p c
  | [] => by simp [noI.noIL]
  | c :: cs => by
    rw [List.forall_mem_cons, ← noIL_iff (cs := cs)]
    exact Iff.rfl
theorem noIL_sub {cs ds : List AV} (h : noI.noIL p cs) (hs : ∀ c ∈ ds, c ∈ cs) : noI.noIL p ds := noIL_iff.2 fun c hc => noIL_iff.1 h c (hs c hc)
theorem noI_cells {c : AV} (h : noI p c) : noI.noIL p c.cells := by
  cases c with
  | agg cs => exact h
  | _ => exact ⟨h, trivial⟩
theorem noI_strip : ∀ (c : AV), noI p c → noI p (strip c) := by
  intro c
  refine AV.rec (motive_1 := fun c => noI p c → noI p (strip c)) (motive_2 := fun cs => noI.noIL p cs → noI.noIL p (strip.stripL cs)) ?_ ?_ ?_ ?_ ?_ ?_ ?_ ?_ ?_ ?_ ?_ ?_ ?_ c
  all_goals (intros; first | assumption | trivial | skip)
  · rename_i m sz xs _ h
    exact ⟨fun k hk => h.1 k ((skI_ap m k).1 hk), h.2⟩
  all_goals first
    | (rename_i ih h; exact ih h)
    | (rename_i h1 h2 h; exact ⟨h1 h.1, h2 h.2⟩)
theorem noIL_strip : ∀ {cs : List AV}, noI.noIL p cs → noI.noIL p (strip.stripL cs)
  | [], _ => trivial
  | c :: cs, h => ⟨noI_strip c h.1, noIL_strip h.2⟩
theorem noI_mkF (b : Bool) : ∀ (c : AV), noI p c → noI p (mkF b c) := by
  intro c
  refine AV.rec (motive_1 := fun c => noI p c → noI p (mkF b c)) (motive_2 := fun cs => noI.noIL p cs → noI.noIL p (mkF.mkL b cs)) ?_ ?_ ?_ ?_ ?_ ?_ ?_ ?_ ?_ ?_ ?_ ?_ ?_ c
  all_goals (intros; first | trivial | skip)
  · rename_i m sz xs _ h
    exact ⟨fun k hk => h.1 k ((mkI_ap b m k).1 hk), h.2⟩
  all_goals first
    | (rename_i ih h; exact ih h)
    | (rename_i h1 h2 h; exact ⟨h1 h.1, h2 h.2⟩)
theorem noIL_mkL (b : Bool) : ∀ {cs : List AV}, noI.noIL p cs → noI.noIL p (mkF.mkL b cs)
  | [], _ => trivial
  | c :: cs, h => ⟨noI_mkF b c h.1, noIL_mkL b h.2⟩
theorem noI_relab (t : Nat) (b : Bool) : ∀ (c : AV), noI p (relab t b c) ↔ noI p c := by
  intro c
  refine AV.rec (motive_1 := fun c => noI p (relab t b c) ↔ noI p c) (motive_2 := fun cs => noI.noIL p (relab.relabL t b cs) ↔ noI.noIL p cs) ?_ ?_ ?_ ?_ ?_ ?_ ?_ ?_ ?_ ?_ ?_ ?_ ?_ c
  all_goals (intros; first | exact Iff.rfl | skip)
  · rename_i m sz xs _
    obtain ⟨ap, fr⟩ := m
    cases ap <;> first | exact Iff.rfl | skip
    exact ⟨fun h => ⟨fun k hk => (by cases hk), h.2⟩, fun h => ⟨fun k hk => (by cases hk), h.2⟩⟩
  all_goals first
    | (rename_i ih; exact ih)
    | (rename_i h1 h2; exact ⟨fun h => ⟨h1.1 h.1, h2.1 h.2⟩, fun h => ⟨h1.2 h.1, h2.2 h.2⟩⟩)
theorem plain_noI {c : AV} (h : plain c = true) : noI p c := by
  unfold plain at h
  rw [Bool.and_eq_true] at h
  exact noI_noN c h.2
theorem noI_val {x : Od} (hx : odP x = true) (hg : ∀ u ∈ odT x, noI p (s.get u)) : noI p (s.val x) := by
  cases x with
  | t n => exact hg n (by simp [odT])
  | c x => exact plain_noI hx
theorem noIL_vals : ∀ {xs : List Od}, xs.all odP = true → (∀ u ∈ xs.flatMap odT, noI p (s.get u)) → noI.noIL p (s.vals xs)
  | [], _, _ => trivial
  | x :: xs, hx, hg => by
    simp only [List.all_cons, Bool.and_eq_true] at hx
    exact ⟨noI_val hx.1 fun u hu => hg u (by simp [hu]), noIL_vals hx.2 fun u hu => hg u (by rw [List.flatMap_cons]; exact List.mem_append_right _ hu)⟩
theorem noIL_fill : ∀ {ps : List (Nat × Nat × Od)} {z cs : List AV}, fill z (pvals s ps) = some cs → noI.noIL p z → (ps.all fun p => odP p.2.2) = true → (∀ u ∈ ps.flatMap (fun p => odT p.2.2), noI p (s.get u)) → noI.noIL p cs
  | [], z, cs, h, hz, _, _ => by obtain rfl := Option.some.inj h; exact hz
  | (o, n, x) :: ps, z, cs, h, hz, hp, hg => by
    simp only [List.all_cons, Bool.and_eq_true] at hp
    simp only [pvals, fill] at h
    split at h
    · refine noIL_fill h ?_ hp.2 fun u hu => hg u (by rw [List.flatMap_cons]; exact List.mem_append_right _ hu)
      have hv := noI_cells (noI_val (s := s) hp.1 fun u hu => hg u (by simp [hu]))
      refine noIL_iff.2 fun c hc => ?_
      unfold upd at hc
      rcases List.mem_append.1 hc with hc | hc
      · rcases List.mem_append.1 hc with hc | hc
        · exact noIL_iff.1 hz c (List.mem_of_mem_take hc)
        · exact noIL_iff.1 hv c hc
      · exact noIL_iff.1 hz c (List.mem_of_mem_drop hc)
    · cases h
theorem ccall_noI {f : Nat} {vs : List AV} {r : Out} (h : ccall E d f vs r) (hv : noI.noIL p vs) (hK : ∀ k, r.K k → ¬ p k) (hE : (∀ k, p k → E.nk k)) : noI p r.v ∧ ∀ l, r.nb = some l → noI.noIL p l := by
  obtain ⟨_, _, t, rfl, K, y, g1, _, g2, hF, rfl⟩ := h
  refine ⟨?_, fun l hl => (by cases hl)⟩
  rcases g2 with g2 | g2
  · exact noI_not (fun k hk => g2 k (hE k hk)) _
  · exact (noI_relab t _ y).2 (g2.1 p hv hK)
theorem core_noI {k : VK} {r : Out} (h : core E s d k r) (hk : k.pl = true) (hg : ∀ u ∈ k.looks, noI p (s.get u)) (hb : ∀ n l, look s.bxs n = some l → noI.noIL p l) (hK : ∀ k, r.K k → ¬ p k) (hE : ∀ k, p k → E.nk k) : noI p r.v ∧ ∀ l, r.nb = some l → noI.noIL p l := by
  have non : ∀ l : List AV, (none : Option (List AV)) = some l → noI.noIL p l := fun l hl => (by cases hl)
  have one : ∀ x : Od, odP x = true → (∀ u ∈ odT x, u ∈ k.looks) → noI p (s.val x) := fun x hp hx => noI_val hp fun u hu => hg u (hx u hu)
  cases k with
  | as x => obtain rfl := h; exact ⟨one x hk fun u hu => hu, non⟩
  | mv x => obtain rfl := h; exact ⟨one x hk fun u hu => hu, non⟩
  | st sz a x => cases h
  | app sz byt x y => cases h
  | apS x y => cases h
  | mks sz byt z n => cases h
  | isn neg x => cases h
  | slM sz x => cases h
  | mn x y => cases h
  | bsb xs => cases h
  | pick c a b =>
    simp only [VK.pl, Bool.and_eq_true] at hk
    obtain ⟨t, _, rfl⟩ := h
    refine ⟨?_, non⟩
    show noI p (if t = true then s.val a else s.val b)
    split
    · exact one a hk.1.2 fun u hu => by simp [VK.looks, hu]
    · exact one b hk.2 fun u hu => by simp [VK.looks, hu]
  | bin op ty x y => obtain ⟨_, _, rfl⟩ := h; exact ⟨trivial, non⟩
  | un op x => obtain ⟨_, _, rfl⟩ := h; exact ⟨trivial, non⟩
  | len op x => obtain ⟨_, _, rfl⟩ := h; exact ⟨trivial, non⟩
  | idx x i => obtain ⟨_, _, _, _, _, _, _, rfl⟩ := h; exact ⟨trivial, non⟩
  | ia sz x i =>
    simp only [VK.pl, Bool.and_eq_true] at hk
    have hx := one x hk.1 fun u hu => by simp [VK.looks, hu]
    obtain ⟨k, j, h1, h2, h⟩ := h
    cases e : s.val x <;> rw [e] at h hx <;> simp only at h
    · obtain ⟨g1, e, g2, rfl⟩ := h; exact ⟨noI_cells (noIL_get hx.2 g2), non⟩
    · obtain ⟨g1, g2, rfl⟩ := h; exact ⟨trivial, non⟩
    · obtain ⟨g1, e, g2, rfl⟩ := h; exact ⟨trivial, non⟩
  | fa off x =>
    have hx := one x hk fun u hu => hu
    simp only [core] at h
    cases e : s.val x <;> rw [e] at h hx <;> simp only at h
    · obtain rfl := h; exact ⟨trivial, non⟩
    · obtain ⟨_, rfl⟩ := h; exact ⟨noIL_sub (cs := _) hx fun c hc => List.mem_of_mem_drop hc, non⟩
    · obtain ⟨_, rfl⟩ := h; exact ⟨trivial, non⟩
  | ld ag sz x =>
    have hx' : noI p (s.val x) := by
      cases x with
      | t n => exact hg n (by simp [VK.looks, odT])
      | c x => cases hk
    simp only [core] at h
    cases e : s.val x <;> rw [e] at h hx' <;> simp only at h
    · obtain ⟨l, el, h1, h2, h⟩ := h
      have hel := noI_cells (noIL_get (hb _ l h1) h2)
      cases ag
      · simp only [Bool.false_eq_true, if_false] at h
        obtain ⟨c, h3, rfl⟩ := h
        exact ⟨noIL_get hel h3, non⟩
      · simp only [if_true] at h
        obtain ⟨h3, rfl⟩ := h
        exact ⟨noIL_sub hel fun c hc => List.mem_of_mem_drop (List.mem_of_mem_take hc), non⟩
    · cases ag
      · simp only [Bool.false_eq_true, if_false] at h
        obtain ⟨c, h3, rfl⟩ := h; exact ⟨noI_mkF _ _ (noIL_get (cs := _) hx' h3), non⟩
      · simp only [if_true] at h
        obtain ⟨h3, rfl⟩ := h
        exact ⟨noIL_mkL _ (noIL_sub (cs := _) hx' fun c hc => List.mem_of_mem_take hc), non⟩
    · obtain ⟨_, z, ys, h3, rfl⟩ := h; exact ⟨trivial, non⟩
  | box sz x =>
    obtain ⟨t, rfl, _, _, _, _, rfl⟩ := h
    refine ⟨trivial, fun l hl => ?_⟩
    obtain rfl := Option.some.inj hl
    exact ⟨one x hk fun u hu => hu, trivial⟩
  | alloc z =>
    obtain ⟨t, rfl, _, _, _, rfl⟩ := h
    refine ⟨trivial, fun l hl => ?_⟩
    obtain rfl := Option.some.inj hl
    exact ⟨plain_noI hk, trivial⟩
  | bld z ps =>
    simp only [VK.pl, Bool.and_eq_true] at hk
    obtain ⟨_, cs, h2, rfl⟩ := h
    exact ⟨noIL_fill h2 (noIL_iff.2 fun c hc => plain_noI (List.all_eq_true.1 hk.1 c hc)) hk.2 fun u hu => hg u hu, non⟩
  | bsl sz xs =>
    obtain ⟨t, rfl, _, rfl⟩ := h
    exact ⟨⟨fun k hk => (by cases hk), noIL_strip (noIL_vals hk fun u hu => hg u hu)⟩, non⟩
  | slS x lo hi => obtain ⟨_, _, _, _, _, rfl⟩ := h; exact ⟨trivial, non⟩
  | slL sz x lo hi =>
    obtain ⟨m, z, xs, h1, _, l, h', _, rfl⟩ := h
    have hx := one x hk fun u hu => by simp [VK.looks, hu]
    rw [h1] at hx
    refine ⟨⟨fun k hk => ?_, noIL_sub hx.2 fun c hc => List.mem_of_mem_take (List.mem_of_mem_drop hc)⟩, non⟩
    obtain ⟨ap, fr⟩ := m
    cases hi with
    | none => cases ap <;> cases hk
    | some _ => cases hk
  | ext x i =>
    obtain ⟨cs, c, h1, h2, rfl⟩ := h
    have hx := one x hk fun u hu => hu
    rw [h1] at hx
    exact ⟨noIL_get (cs := cs) hx h2, non⟩
  | call q f as => exact ccall_noI h.2 (noIL_vals hk fun u hu => hg u hu) hK hE
  | callv q x as =>
    obtain ⟨_, f, cs, h1, _, h⟩ := h
    simp only [VK.pl, Bool.and_eq_true] at hk
    have hx := one x hk.1 fun u hu => by simp [VK.looks, hu]
    rw [h1] at hx
    refine ccall_noI h (noIL_iff.2 fun c hc => ?_) hK hE
    rcases List.mem_append.1 hc with hc | hc
    · exact noIL_iff.1 (noIL_vals hk.2 fun u hu => hg u (by simp only [VK.looks]; exact List.mem_append_right _ hu)) c hc
    · exact noIL_iff.1 (show noI.noIL p cs from hx) c hc
  | mkf f as => obtain rfl := h; exact ⟨noIL_vals hk fun u hu => hg u hu, non⟩
  | cvI k x => obtain ⟨_, _, _, rfl⟩ := h; exact ⟨trivial, non⟩
  | b2s x => obtain ⟨_, _, _, _, _, _, _, rfl⟩ := h; exact ⟨trivial, non⟩
  | cvS x => obtain ⟨_, _, rfl⟩ := h; exact ⟨trivial, non⟩
end
end Go.Proofs.YticockdhfglolaaGreatDoor.Vm
/- An abstract machine over values: the orders of a region, last part. -/
namespace Go.Proofs.YticockdhfglolaaGreatDoor.Vm
open Go Go.RowKit
set_option linter.unusedVariables false
set_option linter.unusedSimpArgs false
def vcore (E : EnvK) (s : AS) (o : VO) (r : Out) : Prop :=
  match o.g with
  | none => core E s o.d o.k r
  | some (t, w) => ∃ b, gOf (s.get t) = some b ∧ if b = some w then core E s o.d o.k r else r = ⟨.tup [], none, 0, K0⟩
def VO.looks (o : VO) : List Nat := (match o.g with | some (t, _) => [t] | none => []) ++ o.k.looks
section
variable {E : EnvK} {s : AS}
theorem vop_core {o : VO} {Q : AS → Prop} (hk : o.k.quiet = true) (h : vop E o s Q) : ∃ r, vcore E s o r ∧ freshN s o.d r ∧ Q (s.out o.d r) := by
  unfold vop at h
  unfold vcore
  cases hg : o.g with
  | none => rw [hg] at h; exact vact_core hk h
  | some p =>
    obtain ⟨t, w⟩ := p
    rw [hg] at h
    obtain ⟨b, hb, h⟩ := h
    by_cases e : b = some w
    · rw [if_pos e] at h
      obtain ⟨r, h1, h2⟩ := vact_core hk h
      exact ⟨r, ⟨b, hb, by rw [if_pos e]; exact h1⟩, h2⟩
    · rw [if_neg e] at h
      exact ⟨⟨.tup [], none, 0, K0⟩, ⟨b, hb, by rw [if_neg e]⟩, fresh0, h⟩
theorem core_vop {o : VO} {Q : AS → Prop} {r : Out} (h : vcore E s o r) (hf : freshN s o.d r) (hq : Q (s.out o.d r)) : vop E o s Q := by
  unfold vcore at h
  unfold vop
  cases hg : o.g with
  | none => rw [hg] at h; exact core_vact h hf hq
  | some p =>
    obtain ⟨t, w⟩ := p
    rw [hg] at h
    obtain ⟨b, hb, h⟩ := h
    refine ⟨b, hb, ?_⟩
    by_cases e : b = some w
    · rw [if_pos e] at h ⊢; exact core_vact h hf hq
    · rw [if_neg e] at h ⊢
      obtain rfl := h
      exact hq
theorem vcore_congr {s' : AS} {o : VO} {r : Out} (h : vcore E s o r) (hg : ∀ u ∈ o.looks, s'.get u = s.get u) (hb : ∀ (ag : Bool) (sz : Nat) (x : Od), o.k = .ld ag sz x → ∀ n i o, s.val x = .ptr n i o → look s'.bxs n = look s.bxs n) : vcore E s' o r := by
  unfold vcore at h ⊢
  have h1 : ∀ u ∈ o.k.looks, s'.get u = s.get u := fun u hu => hg u (List.mem_append_right _ hu)
  cases e : o.g with
  | none => rw [e] at h; exact core_congr h h1 hb
  | some p =>
    obtain ⟨t, w⟩ := p
    rw [e] at h
    obtain ⟨b, hb', h⟩ := h
    refine ⟨b, by rw [hg t (by unfold VO.looks; rw [e]; simp)]; exact hb', ?_⟩
    split at h
    · rename_i e; rw [if_pos e]; exact core_congr h h1 hb
    · rename_i e; rw [if_neg e]; exact h
theorem vcore_nb {o : VO} {r : Out} (h : vcore E s o r) : r.nb = none ∨ r.fk = 2 := by
  unfold vcore at h
  split at h
  · exact core_nb h
  · obtain ⟨b, _, h⟩ := h
    split at h
    · exact core_nb h
    · obtain rfl := h; exact .inl rfl
theorem vcore_fk {o : VO} {r : Out} (h : vcore E s o r) (hk : o.k.mayFresh = false) : r.fk = 0 ∧ r.K = K0 := by
  unfold vcore at h
  split at h
  · exact core_fk h hk
  · obtain ⟨b, _, h⟩ := h
    split at h
    · exact core_fk h hk
    · obtain rfl := h; exact ⟨rfl, rfl⟩
theorem vcore_ok1 {pc pb : Nat → Bool} {o : VO} {r : Out} (h : vcore E s o r) (hk : o.k.pl = true) (hg : ∀ u ∈ o.looks, ok1 pc pb (s.get u) = true) (hb : ∀ n l, look s.bxs n = some l → ok1.okL pc pb l = true) (ht : ∀ t, o.d = some t → ∀ c, c < 64 → pc (64 * t + c) = true) (hn : ∀ t, o.d = some t → pb (1000000000000 + t) = true) : ok1 pc pb r.v = true ∧ ∀ l, r.nb = some l → ok1.okL pc pb l = true := by
  have h1 : ∀ u ∈ o.k.looks, ok1 pc pb (s.get u) = true := fun u hu => hg u (List.mem_append_right _ hu)
  unfold vcore at h
  split at h
  · exact core_ok1 h hk h1 hb ht hn
  · obtain ⟨b, _, h⟩ := h
    split at h
    · exact core_ok1 h hk h1 hb ht hn
    · obtain rfl := h; exact ⟨rfl, fun l hl => (by cases hl)⟩
/-- it makes a box -/
def VK.news : VK → Bool
  | .box _ _ | .alloc _ => true
  | _ => false
theorem core_news {d : Option Nat} {k : VK} {r : Out} (h : core E s d k r) (hk : k.news = false) : r.nb = none := by
  rcases core_nb h with h1 | h1
  · exact h1
  · by_cases hf : k.mayFresh = false
    · rw [(core_fk h hf).1] at h1; cases h1
    · cases k with
      | call q f as => obtain ⟨_, _, _, t, rfl, K, y, _, _, _, hF, rfl⟩ := h; rfl
      | callv q x as => obtain ⟨_, f, cs, _, _, _, _, t, rfl, K, y, _, _, _, hF, rfl⟩ := h; rfl
      | bsl sz xs => obtain ⟨t, rfl, _, rfl⟩ := h; rfl
      | box sz x => cases hk
      | alloc y => cases hk
      | _ => exact absurd rfl hf
theorem vcore_news {o : VO} {r : Out} (h : vcore E s o r) (hk : o.k.news = false) : r.nb = none := by
  unfold vcore at h
  split at h
  · exact core_news h hk
  · obtain ⟨b, _, h⟩ := h
    split at h
    · exact core_news h hk
    · obtain rfl := h; rfl
theorem core_men {d : Option Nat} {k : VK} {r : Out} (h : core E s d k r) : (∀ j, r.K j → E.nk j) ∧ ((∀ j, ¬ E.nk j) ∨ ∀ p : Nat → Prop, noI p r.v → ∀ j, r.K j → ¬ p j) := by
  have z : r.K = K0 → (∀ j, r.K j → E.nk j) ∧ ((∀ j, ¬ E.nk j) ∨ ∀ p : Nat → Prop, noI p r.v → ∀ j, r.K j → ¬ p j) := fun e => by
    rw [e]
    exact ⟨fun j hj => hj.elim, .inr fun p _ j hj => hj.elim⟩
  have cl : ∀ {f : Nat} {vs : List AV}, ccall E d f vs r → (∀ j, r.K j → E.nk j) ∧ ((∀ j, ¬ E.nk j) ∨ ∀ p : Nat → Prop, noI p r.v → ∀ j, r.K j → ¬ p j) := by
    rintro f vs ⟨_, _, t, rfl, K, y, g1, _, g2, hF, rfl⟩
    refine ⟨g1, g2.imp id fun g p hp => g.2 p ((noI_relab t _ y).1 hp)⟩
  by_cases hk : k.mayFresh = false
  · exact z (core_fk h hk).2
  · cases k with
    | call q f as => exact cl h.2
    | callv q x as => obtain ⟨_, f, cs, _, _, h⟩ := h; exact cl h
    | bsl sz xs => obtain ⟨t, rfl, _, rfl⟩ := h; exact z rfl
    | box sz x => obtain ⟨t, rfl, _, _, _, _, rfl⟩ := h; exact z rfl
    | alloc y => obtain ⟨t, rfl, _, _, _, rfl⟩ := h; exact z rfl
    | _ => exact absurd rfl hk
theorem vcore_men {o : VO} {r : Out} (h : vcore E s o r) : (∀ j, r.K j → E.nk j) ∧ ((∀ j, ¬ E.nk j) ∨ ∀ p : Nat → Prop, noI p r.v → ∀ j, r.K j → ¬ p j) := by
  unfold vcore at h
  split at h
  · exact core_men h
  · obtain ⟨b, _, h⟩ := h
    split at h
    · exact core_men h
    · obtain rfl := h; exact ⟨fun j hj => hj.elim, .inr fun p _ j hj => hj.elim⟩
theorem vcore_noI {p : Nat → Prop} {o : VO} {r : Out} (h : vcore E s o r) (hk : o.k.pl = true) (hg : ∀ u ∈ o.looks, noI p (s.get u)) (hb : ∀ n l, look s.bxs n = some l → noI.noIL p l) (hK : ∀ k, r.K k → ¬ p k) (hE : ∀ k, p k → E.nk k) : noI p r.v ∧ ∀ l, r.nb = some l → noI.noIL p l := by
  have h1 : ∀ u ∈ o.k.looks, noI p (s.get u) := fun u hu => hg u (List.mem_append_right _ hu)
  unfold vcore at h
  split at h
  · exact core_noI h hk h1 hb hK hE
  · obtain ⟨b, _, h⟩ := h
    split at h
    · exact core_noI h hk h1 hb hK hE
    · obtain rfl := h; exact ⟨trivial, fun l hl => (by cases hl)⟩
theorem get_out (s : AS) (t : Nat) (r : Out) (u : Nat) : (s.out (some t) r).get u = if u = t then r.v else s.get u := by
  unfold AS.out
  cases hr : r.nb with
  | none => exact get_put _ _ _ _
  | some l => exact get_put _ _ _ _
theorem look_out (s : AS) (t : Nat) (r : Out) (n : Nat) : look (s.out (some t) r).bxs n = if n = 1000000000000 + t then (r.nb.or (look s.bxs n)) else look s.bxs n := by
  unfold AS.out
  cases hr : r.nb with
  | none =>
    simp only [Option.none_or]
    split <;> rfl
  | some l =>
    show look (s.setB (1000000000000 + t) l).bxs n = _
    rw [look_setB]
    rfl
theorem out_comm (s : AS) {t1 t2 : Nat} (h : t1 ≠ t2) (r1 r2 : Out) : (s.out (some t1) r1).out (some t2) r2 = (s.out (some t2) r2).out (some t1) r1 := by
  unfold AS.out
  cases r1.nb <;> cases r2.nb
  · simp only [AS.putO, AS.put, AS.setB]
    rw [setL_comm _ _ _ _ h]
  · simp only [AS.putO, AS.put, AS.setB]
    rw [setL_comm _ _ _ _ h]
  · simp only [AS.putO, AS.put, AS.setB]
    rw [setL_comm _ _ _ _ h]
  · simp only [AS.putO, AS.put, AS.setB]
    rw [setL_comm _ _ _ _ h, setL_comm (1000000000000 + t1) _ _ _ (by omega)]
theorem allV_set {α : Type} {p : α → Bool} {t : Nat} {v : α} : ∀ {l : List (Nat × α)}, allV p l = true → p v = true → allV p (setL t v l) = true
  | [], _, hv => by simp [setL, allV, hv]
  | (u, y) :: l, h, hv => by
    simp only [allV, Bool.and_eq_true] at h
    simp only [setL]
    split
    · simp [allV, hv, h.1, h.2]
    · split
      · simp [allV, hv, h.2]
      · simp [allV, h.1, allV_set h.2 hv]
theorem allV_unset {α : Type} {p : α → Bool} {t : Nat} {v : α} : ∀ {l : List (Nat × α)}, allV p (setL t v l) = true → (∀ w, look l t = some w → p w = true) → allV p l = true
  | [], _, _ => rfl
  | (u, y) :: l, h, hl => by
    simp only [setL] at h
    simp only [look] at hl
    split at h
    · simp only [allV, Bool.and_eq_true] at h ⊢
      exact h.2
    · split at h
      · rename_i e
        simp only [allV, Bool.and_eq_true] at h ⊢
        rw [if_pos e] at hl
        exact ⟨hl y rfl, h.2⟩
      · rename_i e
        simp only [allV, Bool.and_eq_true] at h ⊢
        rw [if_neg e] at hl
        exact ⟨h.1, allV_unset h.2 hl⟩
/-- all in it is so -/
def allS (p : AV → Bool) (pL : List AV → Bool) (s : AS) : Bool := allV p s.env && allV pL s.bxs
theorem noC_allS (s : AS) (d : Nat) : s.noC d = allS (ok1 (fun k => k / 64 != d) (fun _ => true)) (ok1.okL (fun k => k / 64 != d) (fun _ => true)) s := by
  unfold AS.noC allS
  rw [funext (ok1_noC d), funext (okL_noC d)]
theorem noB_allS (s : AS) (d : Nat) : s.noB d = allS (ok1 (fun _ => true) (fun k => k != d)) (ok1.okL (fun _ => true) (fun k => k != d)) s := by
  unfold AS.noB allS
  rw [funext (ok1_noB d), funext (okL_noB d)]
variable {pc pb : Nat → Bool}
theorem all_unout {t1 t2 : Nat} {r : Out} (h12 : t1 ≠ t2) (h : allS (ok1 pc pb) (ok1.okL pc pb) ((s.out (some t1) r).putO (some t2) .un) = true) (hu : s.get t1 = .un) (hb : r.nb = none ∨ look s.bxs (1000000000000 + t1) = none) : allS (ok1 pc pb) (ok1.okL pc pb) (s.putO (some t2) .un) = true := by
  unfold allS at h ⊢
  simp only [Bool.and_eq_true] at h ⊢
  have henv : allV (ok1 pc pb) (setL t1 r.v (setL t2 .un s.env)) = true := by
    have h1 := h.1
    unfold AS.out at h1
    cases hr : r.nb <;> rw [hr] at h1 <;> (rw [setL_comm _ _ _ _ h12]; exact h1)
  refine ⟨allV_unset henv fun w hw => ?_, ?_⟩
  · change look (setL t2 .un s.env) t1 = some w at hw
    rw [look_setL, if_neg h12] at hw
    unfold AS.get at hu
    rw [hw] at hu
    have : w = .un := hu
    rw [this]; rfl
  · have h2 := h.2
    unfold AS.out at h2
    cases hr : r.nb with
    | none => rw [hr] at h2; exact h2
    | some l =>
      rw [hr] at h2
      have hb : look s.bxs (1000000000000 + t1) = none := hb.resolve_left (by rw [hr]; simp)
      exact allV_unset (t := 1000000000000 + t1) (v := l) h2 fun w hw => by rw [show (s.putO (some t2) AV.un).bxs = s.bxs from rfl, hb] at hw; cases hw
theorem all_out {t1 t2 : Nat} {r : Out} (h12 : t1 ≠ t2) (h : allS (ok1 pc pb) (ok1.okL pc pb) (s.putO (some t1) .un) = true) (hv : ok1 pc pb r.v = true) (hn : ∀ l, r.nb = some l → ok1.okL pc pb l = true) : allS (ok1 pc pb) (ok1.okL pc pb) ((s.out (some t2) r).putO (some t1) .un) = true := by
  unfold allS at h ⊢
  simp only [Bool.and_eq_true] at h ⊢
  have henv := allV_set (t := t2) h.1 hv
  unfold AS.out
  cases hr : r.nb with
  | none =>
    refine ⟨?_, h.2⟩
    show allV _ (setL t1 .un (setL t2 r.v s.env)) = true
    rw [setL_comm _ _ _ _ h12]
    exact henv
  | some l =>
    refine ⟨?_, allV_set h.2 (hn l hr)⟩
    show allV _ (setL t1 .un (setL t2 r.v s.env)) = true
    rw [setL_comm _ _ _ _ h12]
    exact henv
theorem allP_set {α : Type} {p : α → Prop} {t : Nat} {v : α} : ∀ {l : List (Nat × α)}, allP p l → p v → allP p (setL t v l)
  | [], _, hv => ⟨hv, trivial⟩
  | (u, y) :: l, h, hv => by
    simp only [setL]
    split
    · exact ⟨hv, h⟩
    · split
      · exact ⟨hv, h.2⟩
      · exact ⟨h.1, allP_set h.2 hv⟩
theorem allP_unset {α : Type} {p : α → Prop} {t : Nat} {v : α} : ∀ {l : List (Nat × α)}, allP p (setL t v l) → (∀ w, look l t = some w → p w) → allP p l
  | [], _, _ => trivial
  | (u, y) :: l, h, hl => by
    simp only [setL] at h
    simp only [look] at hl
    split at h
    · exact h.2
    · split at h
      · rename_i e
        rw [if_pos e] at hl
        exact ⟨hl y rfl, h.2⟩
      · rename_i e
        rw [if_neg e] at hl
        exact ⟨h.1, allP_unset h.2 hl⟩
theorem noI_unout {p : Nat → Prop} {t1 t2 : Nat} {r : Out} (h12 : t1 ≠ t2) (h : ((s.out (some t1) r).putO (some t2) .un).noI p) (hu : s.get t1 = .un) (hb : r.nb = none ∨ look s.bxs (1000000000000 + t1) = none) : (s.putO (some t2) .un).noI p := by
  have henv : allP (Vm.noI p) (setL t1 r.v (setL t2 .un s.env)) := by
    have h1 := h.1
    unfold AS.out at h1
    cases hr : r.nb <;> rw [hr] at h1 <;> (rw [setL_comm _ _ _ _ h12]; exact h1)
  refine ⟨allP_unset henv fun w hw => ?_, ?_⟩
  · change look (setL t2 .un s.env) t1 = some w at hw
    rw [look_setL, if_neg h12] at hw
    unfold AS.get at hu
    rw [hw] at hu
    have : w = .un := hu
    rw [this]; trivial
  · have h2 := h.2
    unfold AS.out at h2
    cases hr : r.nb with
    | none => rw [hr] at h2; exact h2
    | some l =>
      rw [hr] at h2
      have hb : look s.bxs (1000000000000 + t1) = none := hb.resolve_left (by rw [hr]; simp)
      exact allP_unset (t := 1000000000000 + t1) (v := l) h2 fun w hw => by rw [show (s.putO (some t2) AV.un).bxs = s.bxs from rfl, hb] at hw; cases hw
theorem noI_out {p : Nat → Prop} {t1 t2 : Nat} {r : Out} (h12 : t1 ≠ t2) (h : (s.putO (some t1) .un).noI p) (hv : noI p r.v) (hn : ∀ l, r.nb = some l → noI.noIL p l) : ((s.out (some t2) r).putO (some t1) .un).noI p := by
  have henv := allP_set (t := t2) h.1 hv
  unfold AS.out
  cases hr : r.nb with
  | none =>
    refine ⟨?_, h.2⟩
    show allP _ (setL t1 .un (setL t2 r.v s.env))
    rw [setL_comm _ _ _ _ h12]
    exact henv
  | some l =>
    refine ⟨?_, allP_set h.2 (hn l hr)⟩
    show allP _ (setL t1 .un (setL t2 r.v s.env))
    rw [setL_comm _ _ _ _ h12]
    exact henv
theorem mapV_setL {α β : Type} (f : α → β) (t : Nat) (v : α) (l : List (Nat × α)) : mapV f (setL t v l) = setL t (f v) (mapV f l) := by
  induction l with
  | nil => rfl
  | cons p l ih =>
    obtain ⟨u, y⟩ := p
    simp only [setL, mapV]
    split
    · rfl
    · split
      · rfl
      · simp only [mapV, ih]
theorem dem_put (s : AS) (t c : Nat) (v : AV) : (s.put t v).dem c = (s.dem c).put t (dem c v) := by
  simp only [AS.put, AS.dem, mapV_setL]
theorem dem_plain (c : Nat) : ∀ (a : AV), plain a = true → dem c a = a := by
  intro a
  unfold plain
  rw [Bool.and_eq_true]
  rintro ⟨h, _⟩
  revert h
  refine AV.rec (motive_1 := fun a => ok1 (fun _ => false) (fun _ => false) a = true → dem c a = a) (motive_2 := fun l => ok1.okL (fun _ => false) (fun _ => false) l = true → dem.demL c l = l) ?_ ?_ ?_ ?_ ?_ ?_ ?_ ?_ ?_ ?_ ?_ ?_ ?_ a
  all_goals (intros; try rfl)
  · rename_i m sz xs _ h
    obtain ⟨ap, fr⟩ := m
    cases ap <;> try rfl
    cases h
  · rename_i cs ih h; simp only [ok1] at h; simp only [dem, ih h]
  · rename_i cs ih h; simp only [ok1] at h; simp only [dem, ih h]
  · rename_i cs ih h; simp only [ok1] at h; simp only [dem, ih h]
  · rename_i c cs h1 h2 h
    simp only [ok1.okL, Bool.and_eq_true] at h
    simp only [dem.demL, h1 h.1, h2 h.2]
/-- a value is handed on, or a place is told, apart from an append -/
def appOk (A B : VO) : Bool := isNone A.g && isNone B.g && (match B.k with | .app _ _ _ _ => true | _ => false) && (match A.k with | .mv x => odP x | .fa _ x => odP x | _ => false)
/-- Two operations may change places. -/
def comm (A B : VO) : Bool :=
  match A.d, B.d with
  | some t1, some t2 => (t1 != t2) && !(B.looks.contains t1) && !(A.looks.contains t2) && ((A.k.quiet && B.k.quiet && A.k.pl && B.k.pl && (match A.k with | .as _ => !B.k.mayFresh | _ => true)) || appOk A B)
  | some t1, none => (match A.k with | .ld _ _ _ => false | _ => true) && A.k.quiet && !A.k.mayFresh && !(B.looks.contains t1) && isNone B.g && (match B.k with | .st _ _ _ => true | _ => false)
  | _, _ => false
/-- a simple operation behind a lessening of a class, and another write -/
theorem core_dem {k : VK} {d : Option Nat} {t c : Nat} {v : AV} {r : Out} (hk : (match k with | .mv x => odP x | .fa _ x => odP x | _ => false) = true) (h : core E s d k r) (hl : t ∉ k.looks) : core E ((s.dem c).put t v) d k ⟨dem c r.v, none, 0, K0⟩ ∧ r.nb = none ∧ r.fk = 0 ∧ r.K = K0 := by
  have val : ∀ x : Od, odP x = true → t ∉ odT x → ((s.dem c).put t v).val x = dem c (s.val x) := by
    intro x hx ht
    cases x with
    | t u =>
      show ((s.dem c).put t v).get u = dem c (s.get u)
      rw [get_put, if_neg (fun e => ht (by simp [odT, e])), get_dem]
    | c y => exact (dem_plain c y hx).symm
  cases k with
  | mv x =>
    obtain rfl := h
    refine ⟨?_, rfl, rfl, rfl⟩
    show (⟨_, none, 0, K0⟩ : Out) = ⟨_, none, 0, K0⟩
    rw [val x hk hl]
  | fa off x =>
    have e := val x hk hl
    simp only [core] at h ⊢
    rw [e]
    cases hx : s.val x <;> rw [hx] at h <;> simp only at h
    · obtain rfl := h; exact ⟨rfl, rfl, rfl, rfl⟩
    · obtain ⟨h1, rfl⟩ := h; exact ⟨⟨h1, rfl⟩, rfl, rfl, rfl⟩
    · obtain ⟨h1, rfl⟩ := h; exact ⟨⟨h1, rfl⟩, rfl, rfl, rfl⟩
  | _ => cases hk
theorem swap_app {A B : VO} {Q : AS → Prop} {t1 t2 : Nat} (hA : A.d = some t1) (hB : B.d = some t2) (h12 : t1 ≠ t2) (hl1 : t1 ∉ B.looks) (hl2 : t2 ∉ A.looks) (hap : appOk A B = true) (hu1 : s.get t1 = .un) (h : vop E A s fun s1 => vop E B s1 Q) : vop E B s fun s1 => vop E A s1 Q := by
  obtain ⟨dA, kA, gA⟩ := A
  obtain ⟨dB, kB, gB⟩ := B
  simp only at hA hB
  subst hA hB
  unfold appOk at hap
  simp only [Bool.and_eq_true] at hap
  obtain ⟨⟨⟨hgA, hgB⟩, hkB⟩, hkA⟩ := hap
  obtain rfl : gA = none := by cases gA <;> first | rfl | cases hgA
  obtain rfl : gB = none := by cases gB <;> first | rfl | cases hgB
  cases kB with
  | app sz byt x y =>
    have qA : kA.quiet = true := by cases kA <;> first | rfl | cases hkA
    have h' : vact E s (some t1) (fun s1 => vop E ⟨some t2, .app sz byt x y, none⟩ s1 Q) kA := h
    obtain ⟨r, hr, _, h⟩ := vact_core (E := E) qA h'
    obtain ⟨_, hnb, hfk, hfK⟩ := core_dem (t := t2) (c := 0) (v := .un) hkA hr (by simpa [VO.looks] using hl2)
    obtain ⟨rv, rnb, rfk, rK⟩ := r
    simp only at hnb hfk hfK
    subst hnb hfk hfK
    have hs1 : s.out (some t1) ⟨rv, none, 0, K0⟩ = s.put t1 rv := rfl
    rw [hs1] at h
    have h : vact E (s.put t1 rv) (some t2) Q (.app sz byt x y) := h
    obtain ⟨m, z, xs, h1, m2, z2, ys, h2, h3, h4, h5, h⟩ := h
    have vl : ∀ w : Od, (∀ u ∈ odT w, u ∈ VO.looks ⟨some t2, .app sz byt x y, none⟩) → (s.put t1 rv).val w = s.val w := fun w hw => val_congr fun u hu => by rw [get_put, if_neg]; rintro rfl; exact hl1 (hw _ hu)
    rw [vl x (by intro u hu; simp [VO.looks, VK.looks, hu])] at h1
    rw [vl y (by intro u hu; simp [VO.looks, VK.looks, hu])] at h2
    refine ⟨m, z, xs, h1, m2, z2, ys, h2, h3, h4, h5, ?_⟩
    cases hm : m.ap <;> rw [hm] at h <;> simp only at h ⊢
    · obtain ⟨t, e, hn, hq⟩ := h
      obtain rfl := Option.some.inj e
      refine ⟨_, rfl, ?_, ?_⟩
      · rw [noC_allS] at hn ⊢
        exact all_unout (r := ⟨rv, none, 0, K0⟩) h12 hn hu1 (.inl rfl)
      · refine core_vact (E := E) (core_congr hr (fun u hu => by rw [get_put, if_neg]; rintro rfl; exact hl2 (by simpa [VO.looks] using hu)) fun ag sz x e => by subst e; cases hkA) fresh0 ?_
        show Q ((s.put t2 _).put t1 rv)
        have : (s.put t2 (.sl ⟨.cl (64 * t2), m.fr && m2.fr⟩ sz (xs ++ ys))).put t1 rv = (s.put t1 rv).put t2 (.sl ⟨.cl (64 * t2), m.fr && m2.fr⟩ sz (xs ++ ys)) := by simp only [AS.put]; rw [setL_comm _ _ _ _ h12]
        rw [this]
        exact hq
    · rename_i c
      obtain ⟨hz, hq⟩ := h
      refine ⟨hz, ?_⟩
      obtain ⟨hc, _⟩ := core_dem (t := t2) (c := c) (v := .sl ⟨.cl c, m.fr && m2.fr⟩ sz (xs ++ ys)) hkA hr (by simpa [VO.looks] using hl2)
      refine core_vact (E := E) hc fresh0 ?_
      show Q (((s.dem c).put t2 _).put t1 (dem c rv))
      have : ((s.dem c).put t2 (.sl ⟨.cl c, m.fr && m2.fr⟩ sz (xs ++ ys))).put t1 (dem c rv) = ((s.put t1 rv).dem c).put t2 (.sl ⟨.cl c, m.fr && m2.fr⟩ sz (xs ++ ys)) := by
        rw [dem_put]; simp only [AS.put]; rw [setL_comm _ _ _ _ h12]
      rw [this]
      exact hq
  | _ => cases hkB
theorem swap_quiet {A B : VO} {Q : AS → Prop} {t1 t2 : Nat} (hA : A.d = some t1) (hB : B.d = some t2) (h12 : t1 ≠ t2) (hl1 : t1 ∉ B.looks) (hl2 : t2 ∉ A.looks) (qA : A.k.quiet = true) (qB : B.k.quiet = true) (pA : A.k.pl = true) (pB : B.k.pl = true) (hUn : B.k.mayFresh = false ∨ (s.get t1 = .un ∧ (A.k.news = false ∨ look s.bxs (1000000000000 + t1) = none))) (h : vop E A s fun s1 => vop E B s1 Q) : vop E B s fun s1 => vop E A s1 Q := by
  obtain ⟨r1, c1, f1, h⟩ := vop_core qA h
  obtain ⟨r2, c2, f2, h⟩ := vop_core qB h
  rw [hA] at f1 h f2 c2
  rw [hB] at h f2
  have gA : ∀ u, u ≠ t1 → (s.out (some t1) r1).get u = s.get u := fun u hu => by rw [get_out, if_neg hu]
  have gB : ∀ u, u ≠ t2 → (s.out (some t2) r2).get u = s.get u := fun u hu => by rw [get_out, if_neg hu]
  -- a load's box is another than the new one
  have ldne : ∀ {t : Nat} {o : VO} {r : Out}, fresh s (some t) r.fk → r.nb = none ∨ r.fk = 2 → o.k.pl = true → t ∉ o.looks → ∀ (ag : Bool) (sz : Nat) (x : Od), o.k = .ld ag sz x → ∀ n i off, s.val x = .ptr n i off → look (s.out (some t) r).bxs n = look s.bxs n := by
    intro t o r hf hn hp hlk ag sz x hk n i off hx
    rw [look_out]
    split
    · rename_i e
      rcases hn with hn | hn
      · rw [hn]; rfl
      · exfalso
        obtain ⟨t', e', hb⟩ := hf.2 hn
        obtain rfl := Option.some.inj e'
        cases x with
        | c y => rw [hk] at hp; cases hp
        | t u =>
          have hut : u ≠ t := by
            rintro rfl
            exact hlk (List.mem_append_right _ (by rw [hk]; simp [VK.looks, odT]))
          have := noB_of hb u hut
          have hx' : s.get u = .ptr n i off := hx
          rw [hx', e] at this
          simp [noB] at this
    · rfl
  have b1 := vcore_nb c1
  have b2 := vcore_nb c2
  -- B ahead of A
  have cB : vcore E s B r2 := by
    refine vcore_congr c2 (fun u hu => (gA u (fun e => hl1 (e ▸ hu))).symm) fun ag sz x hk n i off hx => ?_
    refine (ldne (o := B) f1.1 b1 pB hl1 ag sz x hk n i off ?_).symm
    rw [← hx]
    refine val_congr fun u hu => (gA u fun e => ?_).symm
    exact hl1 (e ▸ (List.mem_append_right _ (by rw [hk]; exact hu)))
  have fB : freshN s (some t2) r2 := by
    rcases hUn with hUn | ⟨hu1, hu2'⟩
    rotate_left
    have hu2 : r1.nb = none ∨ look s.bxs (1000000000000 + t1) = none := hu2'.imp (vcore_news c1) id
    rotate_left
    · refine ⟨?_, ?_⟩
      · rw [(vcore_fk c2 hUn).1]; exact fresh00
      · rw [(vcore_fk c2 hUn).2]; exact noI_K0 _
    · refine ⟨⟨fun e => ?_, fun e => ?_⟩, noI_unout h12 f2.2 hu1 hu2⟩
      · obtain ⟨t, e', hn⟩ := f2.1.1 e
        obtain rfl := Option.some.inj e'
        refine ⟨_, rfl, ?_⟩
        rw [noC_allS] at hn ⊢
        exact all_unout h12 hn hu1 hu2
      · obtain ⟨t, e', hn⟩ := f2.1.2 e
        obtain rfl := Option.some.inj e'
        refine ⟨_, rfl, ?_⟩
        rw [noB_allS] at hn ⊢
        exact all_unout h12 hn hu1 hu2
  have cA : vcore E (s.out (some t2) r2) A r1 := by
    refine vcore_congr c1 (fun u hu => gB u (by rintro rfl; exact hl2 hu)) fun ag sz x hk n i off hx => ?_
    exact ldne (o := A) fB.1 b2 pA hl2 ag sz x hk n i off hx
  have hm := vcore_men c1
  have hdis : ∀ k, r2.K k → ¬ r1.K k := by
    intro k h2 h1
    rcases hm.2 with g | g
    · exact g k (hm.1 k h1)
    · refine g r2.K ?_ k h1 h2
      have := noI_get f2.2 t1
      rw [show ((s.out (some t1) r1).putO (some t2) .un).get t1 = r1.v by show ((s.out (some t1) r1).put t2 .un).get t1 = _; rw [get_put, if_neg h12, get_out, if_pos rfl]] at this
      exact this
  have hno := vcore_noI (p := r1.K) cB pB (fun u hu => by
    have := noI_get f1.2 u
    rw [show (s.putO (some t1) .un).get u = s.get u by show (s.put t1 .un).get u = _; rw [get_put, if_neg (by rintro rfl; exact hl1 hu)]] at this
    exact this) (fun n l hl => allP_get f1.2.2 hl) hdis hm.1
  have fA : freshN (s.out (some t2) r2) (some t1) r1 := by
    refine ⟨⟨fun e => ?_, fun e => ?_⟩, noI_out h12 f1.2 hno.1 hno.2⟩
    · obtain ⟨t, e', hn⟩ := f1.1.1 e
      obtain rfl := Option.some.inj e'
      refine ⟨_, rfl, ?_⟩
      have hok := vcore_ok1 (pc := fun k => k / 64 != t1) (pb := fun _ => true) cB pB (fun u hu => by rw [← ok1_noC]; exact noC_of hn u (fun e => hl1 (e ▸ hu))) (fun n l hl => by rw [← okL_noC]; exact noC_box hn hl) (fun t ht c hc => by rw [hB] at ht; obtain rfl := Option.some.inj ht; simp only [bne_iff_ne, ne_eq]; omega) (fun _ _ => rfl)
      rw [noC_allS] at hn ⊢
      exact all_out h12 hn hok.1 hok.2
    · obtain ⟨t, e', hn⟩ := f1.1.2 e
      obtain rfl := Option.some.inj e'
      refine ⟨_, rfl, ?_⟩
      have hok := vcore_ok1 (pc := fun _ => true) (pb := fun k => k != 1000000000000 + t1) cB pB (fun u hu => by rw [← ok1_noB]; exact noB_of hn u (fun e => hl1 (e ▸ hu))) (fun n l hl => by rw [← okL_noB]; exact noB_box hn hl) (fun _ _ _ _ => rfl) (fun t ht => by rw [hB] at ht; obtain rfl := Option.some.inj ht; simp only [bne_iff_ne, ne_eq]; omega)
      rw [noB_allS] at hn ⊢
      exact all_out h12 hn hok.1 hok.2
  refine core_vop cB (by rw [hB]; exact fB) ?_
  rw [hB]
  refine core_vop cA (by rw [hA]; exact fA) ?_
  rw [hA, ← out_comm s h12]
  exact h
theorem swap_st {A B : VO} {Q : AS → Prop} {t1 : Nat} (hA : A.d = some t1) (hB : B.d = none) (hld : ∀ ag sz x, A.k ≠ .ld ag sz x) (qA : A.k.quiet = true) (mA : A.k.mayFresh = false) (hl1 : t1 ∉ B.looks) (hg : B.g = none) (hst : ∃ sz a x, B.k = .st sz a x) (h : vop E A s fun s1 => vop E B s1 Q) : vop E B s fun s1 => vop E A s1 Q := by
  obtain ⟨r1, c1, f1, h⟩ := vop_core qA h
  obtain ⟨sz, ad, x, hk⟩ := hst
  rw [hA] at f1 h
  obtain ⟨hfk, hfK⟩ := vcore_fk c1 mA
  have hnb : r1.nb = none := by
    rcases vcore_nb c1 with e | e
    · exact e
    · rw [hfk] at e; cases e
  have gA : ∀ u, u ≠ t1 → (s.out (some t1) r1).get u = s.get u := fun u hu => by rw [get_out, if_neg hu]
  have hs1 : s.out (some t1) r1 = s.put t1 r1.v := by unfold AS.out; rw [hnb]; rfl
  unfold vop at h ⊢
  rw [hg, hk, hB] at h ⊢
  simp only at h ⊢
  have va : (s.out (some t1) r1).val ad = s.val ad := val_congr fun u hu => gA u (by rintro rfl; exact hl1 (List.mem_append_right _ (by rw [hk]; simp [VK.looks, hu])))
  have vx' : (s.out (some t1) r1).val x = s.val x := val_congr fun u hu => gA u (by rintro rfl; exact hl1 (List.mem_append_right _ (by rw [hk]; simp [VK.looks, hu])))
  rcases h with ⟨n, i, o, h1, l, e, h2, h3, h4, h5, h6, h7, h8⟩ | ⟨c, cs, h1, h2, h3, h4, h5, h6⟩
  rotate_left
  · rw [va] at h1
    rw [vx'] at h4 h5
    rw [hs1] at h6
    refine .inr ⟨c, cs, h1, h2, h3, h4, h5, ?_⟩
    refine core_vop c1 (by refine ⟨?_, ?_⟩; rw [hA, hfk]; exact fresh00; rw [hfK]; exact noI_K0 _) ?_
    rw [hA]
    show Q (s.out (some t1) r1)
    rw [hs1]
    exact h6
  rw [va] at h1
  rw [vx'] at h5 h7 h8
  rw [hs1] at h2 h8
  refine .inl ⟨n, i, o, h1, l, e, h2, h3, h4, h5, h6, h7, ?_⟩
  have cA : vcore E (s.setB n (l.set i (putElem e o (s.val x)))) A r1 := vcore_congr c1 (fun _ _ => rfl) fun ag sz x hk => absurd hk (hld ag sz x)
  refine core_vop cA (by refine ⟨?_, ?_⟩; rw [hA, hfk]; exact fresh00; rw [hfK]; exact noI_K0 _) ?_
  rw [hA]
  have : (s.setB n (l.set i (putElem e o (s.val x)))).out (some t1) r1 = (s.setB n (l.set i (putElem e o (s.val x)))).put t1 r1.v := by unfold AS.out; rw [hnb]; rfl
  show Q ((s.setB n (l.set i (putElem e o (s.val x)))).out (some t1) r1)
  rw [this]
  exact h8
theorem tmp_un {A : VO} {t1 : Nat} (hA : A.d = some t1) (h1 : ∀ x, A.k ≠ .as x) (h2 : ∀ sz a x, A.k ≠ .st sz a x) (ht : tmpOk s A = true) : s.get t1 = .un ∧ (A.k.news = false ∨ look s.bxs (1000000000000 + t1) = none) := by
  have un : isUn (s.get t1) = true → s.get t1 = .un := fun h => by cases hs : s.get t1 <;> rw [hs] at h <;> first | rfl | cases h
  have no : isNone (look s.bxs (1000000000000 + t1)) = true → look s.bxs (1000000000000 + t1) = none := fun h => by cases hs : look s.bxs (1000000000000 + t1) <;> rw [hs] at h <;> first | rfl | cases h
  unfold tmpOk at ht
  rw [hA] at ht
  cases hk : A.k with
  | as x => exact absurd hk (h1 x)
  | st sz a x => exact absurd hk (h2 sz a x)
  | box sz x => rw [hk] at ht; simp only [Bool.and_eq_true] at ht; exact ⟨un ht.1, .inr (no ht.2)⟩
  | alloc z => rw [hk] at ht; simp only [Bool.and_eq_true] at ht; exact ⟨un ht.1, .inr (no ht.2)⟩
  | _ => rw [hk] at ht; exact ⟨un ht, .inl rfl⟩
theorem swap {A B : VO} {Q : AS → Prop} (hc : comm A B = true) (ht : tmpOk s A = true) (h : vop E A s fun s1 => vop E B s1 Q) : vop E B s fun s1 => vop E A s1 Q := by
  unfold comm at hc
  cases hA : A.d with
  | none => rw [hA] at hc; cases B.d <;> cases hc
  | some t1 =>
    cases hB : B.d with
    | some t2 =>
      rw [hA, hB] at hc
      simp only [Bool.and_eq_true, bne_iff_ne, ne_eq, Bool.not_eq_true', List.contains_eq_mem, decide_eq_false_iff_not] at hc
      simp only [Bool.or_eq_true, Bool.and_eq_true] at hc
      obtain ⟨⟨⟨c1, c2⟩, c3⟩, hc⟩ := hc
      rcases hc with hc | hc
      rotate_left
      · exact swap_app hA hB c1 c2 c3 hc (tmp_un hA (fun x e => by simp [appOk, e] at hc) (fun sz a x e => by simp [appOk, e] at hc) ht).1 h
      obtain ⟨⟨⟨⟨c4, c5⟩, c6⟩, c7⟩, c8⟩ := hc
      refine swap_quiet hA hB c1 c2 c3 c4 c5 c6 c7 ?_ h
      by_cases has : ∃ x, A.k = .as x
      · obtain ⟨x, e⟩ := has
        rw [e] at c8
        exact .inl (by simpa using c8)
      · exact .inr (tmp_un hA (fun x e => has ⟨x, e⟩) (fun sz a x e => by rw [e] at c4; cases c4) ht)
    | none =>
      rw [hA, hB] at hc
      simp only [Bool.and_eq_true, Bool.not_eq_true', List.contains_eq_mem, decide_eq_false_iff_not] at hc
      obtain ⟨⟨⟨⟨⟨c1, c2⟩, c3⟩, c4⟩, c5⟩, c6⟩ := hc
      refine swap_st hA hB (fun ag sz x e => by rw [e] at c1; cases c1) c2 c3 c4 ?_ ?_ h
      · cases hg : B.g <;> rw [hg] at c5 <;> first | rfl | cases c5
      · cases hk : B.k <;> rw [hk] at c6 <;> first | exact ⟨_, _, _, rfl⟩ | cases c6
end
end Go.Proofs.YticockdhfglolaaGreatDoor.Vm
/- An abstract machine over values: a region with drawn orders. -/
namespace Go.Proofs.YticockdhfglolaaGreatDoor.Vm
open Go Go.RowKit
set_option linter.unusedVariables false
set_option linter.unusedSimpArgs false
/-- i comes behind j -/
def anc (ops : Array Oper) : Nat → Nat → Nat → Bool
  | 0, _, _ => false
  | f + 1, i, j => match ops[i]? with
    | some o => o.after.any fun e => Region.binds .any e && (e.on == j || anc ops f e.on j)
    | none => false
def VK.late : VK → Bool
  | .as _ | .st _ _ _ => true
  | _ => false
def apartD (A B : VO) : Bool := (match A.d, B.d with | some a, some b => a != b | _, _ => true) || (A.k.late && B.k.late)
/-- the operations that an operation comes behind, as bits -/
def maskO (T : List Nat) (l : List Edge) : Nat := l.foldr (fun e m => if Region.binds .any e then (2 ^ e.on ||| T.getD e.on 0) ||| m else m) 0
def ancM (l : List Oper) (T : List Nat) : List Nat := match l with
  | [] => T
  | o :: l => ancM l (T ++ [maskO T o.after.toList])
def chkR (ops : Array Oper) (os : List VO) : Bool :=
  (List.range os.length).all fun i => match ops[i]?, os[i]? with
    | some o, some B => (o.after.all fun e => !Region.binds .any e || decide (e.on < i)) && (List.range i).all fun j => match os[j]? with
      | some A => apartD A B && (comm A B || ((ancM ops.toList []).getD i 0).testBit j)
      | none => false
    | _, _ => false
theorem maskO_bit {T : List Nat} {j : Nat} : ∀ {l : List Edge}, (maskO T l).testBit j = true → ∃ e ∈ l, Region.binds .any e = true ∧ (e.on = j ∨ (T.getD e.on 0).testBit j = true)
  | [], h => by simp [maskO] at h
  | e :: l, h => by
    unfold maskO at h
    rw [List.foldr_cons] at h
    split at h
    · rename_i hb
      rw [Nat.testBit_or, Nat.testBit_or, Bool.or_eq_true, Bool.or_eq_true] at h
      rcases h with (h | h) | h
      · rw [Nat.testBit_two_pow] at h
        exact ⟨e, List.mem_cons_self, hb, .inl (by simpa using h)⟩
      · exact ⟨e, List.mem_cons_self, hb, .inr h⟩
      · obtain ⟨e', h1, h2⟩ := maskO_bit (l := l) h
        exact ⟨e', List.mem_cons_of_mem _ h1, h2⟩
    · obtain ⟨e', h1, h2⟩ := maskO_bit (l := l) h
      exact ⟨e', List.mem_cons_of_mem _ h1, h2⟩
theorem ancM_bit {ops : Array Oper} : ∀ (l pre : List Oper) (T : List Nat), ops.toList = pre ++ l → pre.length = T.length → (∀ i j, (T.getD i 0).testBit j = true → ∃ f, anc ops f i j = true) → ∀ i j, ((ancM l T).getD i 0).testBit j = true → ∃ f, anc ops f i j = true
  | [], _, T, _, _, hT, i, j, h => hT i j h
  | o :: l, pre, T, hp, hl, hT, i, j, h => by
    refine ancM_bit l (pre ++ [o]) (T ++ [maskO T o.after.toList]) (by rw [hp]; simp) (by simp [hl]) (fun i j h => ?_) i j h
    rw [List.getD_eq_getElem?_getD] at h
    rcases Nat.lt_trichotomy i T.length with h1 | h1 | h1
    · rw [List.getElem?_append_left h1, ← List.getD_eq_getElem?_getD] at h
      exact hT i j h
    · subst h1
      rw [List.getElem?_append_right (Nat.le_refl _), Nat.sub_self] at h
      obtain ⟨e, he, hb, h2⟩ := maskO_bit (l := o.after.toList) h
      have ho : ops[T.length]? = some o := by
        rw [← Array.getElem?_toList, hp, List.getElem?_append_right (by omega), hl, Nat.sub_self]; rfl
      rcases h2 with h2 | h2
      · refine ⟨1, ?_⟩
        unfold anc
        rw [ho]
        exact Array.any_eq_true'.2 ⟨e, by simpa using he, by simp [hb, h2]⟩
      · obtain ⟨f, hf⟩ := hT e.on j h2
        refine ⟨f + 1, ?_⟩
        unfold anc
        rw [ho]
        exact Array.any_eq_true'.2 ⟨e, by simpa using he, by simp [hb, hf]⟩
    · rw [List.getElem?_eq_none (by simp; omega)] at h
      simp at h
def vL (E : EnvK) (os : List VO) : List Nat → AS → (AS → Prop) → Prop
  | [], s, Q => Q s
  | i :: L, s, Q => ∃ o, os[i]? = some o ∧ vop E o s fun s' => vL E os L s' Q
section
variable {E : EnvK} {x0 x : X} {w0 w : World} {pb nt : Nat} {a : Act} {s : AS} {os : List VO} {ops : Array Oper}
theorem vL_of : ∀ (l : List VO) (k : Nat) (s : AS) (Q : AS → Prop), os.drop k = l → vops E l s Q → vL E os (List.range' k l.length) s Q
  | [], k, s, Q, _, h => h
  | o :: l, k, s, Q, hd, h => by
    simp only [List.length_cons, List.range'_succ, vL]
    have h0 : os[k]? = some o := by
      have := congrArg (·[0]?) hd
      simpa using this
    refine ⟨o, h0, vop_mono h fun s' hs' _ => vL_of l (k + 1) s' Q ?_ hs'⟩
    rw [← List.drop_drop, hd]
    rfl
theorem apartD_late {A B : VO} (h : apartD A B = true) {s s' : AS} (hk : Keep s s' A.d) (hB : tmpOk s B = true) : tmpOk s' B = true := by
  have ne : ∀ t, B.d = some t → B.k.late = false → A.d ≠ some t := by
    intro t hd hnl e
    unfold apartD at h
    rw [e, hd, hnl] at h
    simp at h
  have c1 : ∀ t, B.d = some t → B.k.late = false → isUn (s.get t) = true → isUn (s'.get t) = true := by
    intro t hd hnl hB
    have h1 : s.get t = .un := by cases hs : s.get t <;> rw [hs] at hB <;> first | rfl | cases hB
    rw [hk.1 t (ne t hd hnl) h1]; rfl
  have c2 : ∀ t, B.d = some t → B.k.late = false → isNone (look s.bxs (1000000000000 + t)) = true → isNone (look s'.bxs (1000000000000 + t)) = true := by
    intro t hd hnl hB
    have h1 : look s.bxs (1000000000000 + t) = none := by cases hs : look s.bxs (1000000000000 + t) <;> rw [hs] at hB <;> first | rfl | cases hB
    rw [hk.2 t (ne t hd hnl) h1]; rfl
  obtain ⟨d, k, g⟩ := B
  unfold tmpOk at hB ⊢
  cases k with
  | as x => rfl
  | st sz a x => rfl
  | box sz x =>
    cases d with
    | none => rfl
    | some t =>
      simp only [Bool.and_eq_true] at hB ⊢
      exact ⟨c1 t rfl rfl hB.1, c2 t rfl rfl hB.2⟩
  | alloc z =>
    cases d with
    | none => rfl
    | some t =>
      simp only [Bool.and_eq_true] at hB ⊢
      exact ⟨c1 t rfl rfl hB.1, c2 t rfl rfl hB.2⟩
  | _ =>
    cases d with
    | none => rfl
    | some t => exact c1 t rfl rfl hB
theorem front {i : Nat} {B : VO} (hB : os[i]? = some B) : ∀ (L1 L2 : List Nat) (s : AS) (Q : AS → Prop), vL E os (L1 ++ i :: L2) s Q → (∀ j ∈ L1, ∀ A, os[j]? = some A → comm A B = true) → (∀ j ∈ L1, ∀ A, os[j]? = some A → tmpOk s A = true) → (L1.Pairwise fun j k => ∀ A C, os[j]? = some A → os[k]? = some C → apartD A C = true) → vop E B s fun s' => vL E os (L1 ++ L2) s' Q
  | [], L2, s, Q, h, _, _, _ => by
    obtain ⟨o, ho, h⟩ := h
    rw [hB] at ho
    obtain rfl := Option.some.inj ho
    exact h
  | j :: L1, L2, s, Q, h, hc, ht, hp => by
    obtain ⟨A, hA, h⟩ := h
    rw [List.pairwise_cons] at hp
    have h2 : vop E A s fun s1 => vop E B s1 fun s2 => vL E os (L1 ++ L2) s2 Q := vop_mono h fun s1 h1 hk => front hB L1 L2 s1 Q h1 (fun k hk => hc k (List.mem_cons_of_mem _ hk)) (fun k hkm C hC => apartD_late (hp.1 k hkm A C hA hC) hk (ht k (List.mem_cons_of_mem _ hkm) C hC)) hp.2
    exact vop_mono (swap (hc j List.mem_cons_self A hA) (ht j List.mem_cons_self A hA) h2) fun s' h' _ => ⟨A, hA, h'⟩
def Closed (ops : Array Oper) (listed : Array Bool) : Prop := ∀ (i : Nat) (o : Oper), listed.getD i false = true → ops[i]? = some o → ∀ e ∈ o.after, Region.binds .any e = true → listed.getD e.on false = true
theorem anc_listed {listed : Array Bool} (hc : Closed ops listed) : ∀ (f i j : Nat), (∀ o, ops[i]? = some o → ∀ e ∈ o.after, Region.binds .any e = true → listed.getD e.on false = true) → anc ops f i j = true → listed.getD j false = true
  | 0, _, _, _, h => by cases h
  | f + 1, i, j, hi, h => by
    simp only [anc] at h
    cases ho : ops[i]? with
    | none => rw [ho] at h; cases h
    | some o =>
      rw [ho] at h
      obtain ⟨e, he, hb⟩ := Array.any_eq_true'.1 h
      simp only [Bool.and_eq_true, Bool.or_eq_true, beq_iff_eq] at hb
      have hl := hi o ho e he hb.1
      rcases hb.2 with e' | e'
      · rw [← e']; exact hl
      · exact anc_listed hc f e.on j (fun o' ho' => hc e.on o' hl ho') e'
theorem getD_tf {listed : Array Bool} {j : Nat} (hj : j < listed.size) : listed.getD j true = listed.getD j false := by
  simp [Array.getD, hj]
theorem St.drew (h : St E x0 w0 pb nt x a w s) (n : Nat) : St E x0 w0 pb nt x a { w with drawn := n } s :=
  { h with fr := h.fr, ag := h.ag, bxs := h.bxs, tl := h.tl }
theorem any_sound (hK : ∀ n, n < pb → E.ng ≤ x0.bx n) (hops : cReg E.P true nt ops ops.toList = some os) (hchk : chkR ops os = true) {Q : AS → Prop} {QQ : Exit → Act → World → Prop} (hQ : ∀ a w, Next2 E x0 w0 pb nt Q a w → QQ .normal a w) :
    ∀ (fuel : Nat) (listed : Array Bool) (L : List Nat) (x : X) (a : Act) (w : World) (s : AS), listed.size = ops.size → L = (List.range ops.size).filter (fun i => !listed.getD i true) → L.length ≤ fuel → Closed ops listed → vL E os L s Q → (∀ i ∈ L, ∀ o, os[i]? = some o → tmpOk s o = true) → St E x0 w0 pb nt x a w s → wpAny E.P .any ops QQ fuel listed a w := by
  obtain ⟨hlen, hspec⟩ := cReg_spec hops
  have hlen' : os.length = ops.size := by rw [hlen]; simp
  have chk : ∀ (i : Nat) (o : Oper) (B : VO), ops[i]? = some o → os[i]? = some B → (∀ e ∈ o.after, Region.binds .any e = true → e.on < i) ∧ ∀ j, j < i → ∀ A, os[j]? = some A → apartD A B = true ∧ ((∃ f, anc ops f i j = true) ∨ comm A B = true) := by
    intro i o B ho hB
    have hlt : i < os.length := (List.getElem?_eq_some_iff.1 hB).1
    have h := List.all_eq_true.1 hchk i (List.mem_range.2 hlt)
    rw [ho, hB] at h
    simp only [Bool.and_eq_true] at h
    refine ⟨fun e he hb => ?_, fun j hj A hA => ?_⟩
    · have := Array.all_eq_true_iff_forall_mem.1 h.1 e he
      rw [hb] at this
      simpa using this
    · have := List.all_eq_true.1 h.2 j (List.mem_range.2 hj)
      rw [hA] at this
      simp only [Bool.and_eq_true, Bool.or_eq_true] at this
      exact ⟨this.1, this.2.elim .inr fun h => .inl (ancM_bit ops.toList [] [] rfl rfl (fun i j h => by simp at h) i j h)⟩
  have inL : ∀ (listed : Array Bool) (i : Nat), i ∈ (List.range ops.size).filter (fun i => !listed.getD i true) ↔ i < ops.size ∧ listed.getD i true = false := by
    intro listed i; rw [List.mem_filter, List.mem_range]; simp
  have main : ∀ (fuel : Nat) (listed : Array Bool) (L : List Nat) (x : X) (a : Act) (w : World) (s : AS), listed.size = ops.size → L = (List.range ops.size).filter (fun i => !listed.getD i true) → L.length ≤ fuel → Closed ops listed → vL E os L s Q → (∀ i ∈ L, ∀ o, os[i]? = some o → tmpOk s o = true) → St E x0 w0 pb nt x a w s → (Region.ready .any ops listed = [] → L = []) ∧ ∀ i ∈ Region.ready .any ops listed, ∃ L', wpOp E.P ops QQ i (fun a' w' => ∃ x' s', vL E os L' s' Q ∧ (∀ i ∈ L', ∀ o, os[i]? = some o → tmpOk s' o = true) ∧ St E x0 w0 pb nt x' a' w' s') a w ∧ L' = (List.range ops.size).filter (fun k => !(listed.setIfInBounds i true).getD k true) ∧ L'.length + 1 = L.length ∧ Closed ops (listed.setIfInBounds i true) := by
    intro fuel listed L x a w s hsz hL hfu hcl hv ht h
    have hsort : L.Pairwise (· < ·) := by rw [hL]; exact List.Pairwise.filter _ List.pairwise_lt_range
    have hmem : ∀ i, i ∈ L ↔ i < ops.size ∧ listed.getD i true = false := fun i => by rw [hL]; exact inL listed i
    refine ⟨fun hr => ?_, fun i hi => ?_⟩
    · cases L with
      | nil => rfl
      | cons m L' =>
        exfalso
        have hm := (hmem m).1 List.mem_cons_self
        have ho : ops[m]? = some ops[m] := Array.getElem?_eq_getElem hm.1
        obtain ⟨B, hB⟩ : ∃ B, os[m]? = some B := ⟨_, List.getElem?_eq_getElem (by omega)⟩
        have hin : m ∈ Region.ready .any ops listed := by
          rw [mem_ready]
          refine ⟨hm.2, _, ho, fun e he hb => ?_⟩
          have hlt := (chk m _ B ho hB).1 e he hb
          cases hd : listed.getD e.on true with
          | true => rw [← getD_tf (by omega)]; exact hd
          | false =>
            have hin : e.on ∈ m :: L' := (hmem e.on).2 ⟨by omega, hd⟩
            rw [List.pairwise_cons] at hsort
            rcases List.mem_cons.1 hin with e1 | e1
            · omega
            · have := hsort.1 _ e1; omega
        rw [hr] at hin; cases hin
    · obtain ⟨hun, o, ho, haft⟩ := mem_ready.1 hi
      have hisz : i < ops.size := (Array.getElem?_eq_some_iff.1 ho).1
      obtain ⟨B, hB⟩ : ∃ B, os[i]? = some B := ⟨_, List.getElem?_eq_getElem (by omega)⟩
      have hiL : i ∈ L := (hmem i).2 ⟨hisz, hun⟩
      obtain ⟨L1, L2, hsplit⟩ := List.append_of_mem hiL
      have hbefore : ∀ j ∈ L1, j < i := by
        intro j hj
        rw [hsplit, List.pairwise_append] at hsort
        exact hsort.2.2 j hj i List.mem_cons_self
      have hafter : ∀ j ∈ L2, i < j := by
        intro j hj
        rw [hsplit, List.pairwise_append, List.pairwise_cons] at hsort
        exact hsort.2.1.1 j hj
      have hcomm : ∀ j ∈ L1, ∀ A, os[j]? = some A → comm A B = true := by
        intro j hj A hA
        rcases ((chk i o B ho hB).2 j (hbefore j hj) A hA).2 with ⟨f, e⟩ | e
        · exfalso
          have hl := anc_listed hcl f i j (fun o' ho' => by rw [ho] at ho'; obtain rfl := Option.some.inj ho'; exact haft) e
          have hjL := (hmem j).1 (by rw [hsplit]; exact List.mem_append_left _ hj)
          rw [getD_tf (by omega), hl] at hjL
          cases hjL.2
        · exact e
      have hpw : L.Pairwise fun j k => ∀ A C, os[j]? = some A → os[k]? = some C → apartD A C = true := by
        refine hsort.imp ?_
        intro j k hjk A C hA hC
        have hk : k < os.length := (List.getElem?_eq_some_iff.1 hC).1
        exact ((chk k ops[k] C (Array.getElem?_eq_getElem (by omega)) hC).2 j hjk A hA).1
      have hfront := front (E := E) hB L1 L2 s Q (by rw [← hsplit]; exact hv) hcomm (fun j hj A hA => ht j (by rw [hsplit]; exact List.mem_append_left _ hj) A hA) (by rw [hsplit, List.pairwise_append] at hpw; exact hpw.1)
      have his : IsOp E.P true nt ops o B := hspec i o B (by rw [Array.getElem?_toList]; exact ho) hB
      refine ⟨L1 ++ L2, ?_, ?_, by rw [hsplit]; simp; omega, ?_⟩
      · have hk : vop E B s fun s' => vL E os (L1 ++ L2) s' Q ∧ ∀ i ∈ L1 ++ L2, ∀ o, os[i]? = some o → tmpOk s' o = true := by
          refine vop_mono hfront fun s' hs' hkeep => ⟨hs', fun k hk C hC => ?_⟩
          have hkL : k ∈ L := by
            rw [hsplit]
            rcases List.mem_append.1 hk with e | e
            · exact List.mem_append_left _ e
            · exact List.mem_append_right _ (List.mem_cons_of_mem _ e)
          have hap : apartD B C = true := by
            rcases List.mem_append.1 hk with e | e
            · have h1 := ((chk i o B ho hB).2 k (hbefore k e) C hC).1
              unfold apartD at h1 ⊢
              cases hB' : B.d <;> cases hC' : C.d <;> rw [hB', hC'] at h1 <;> simp only [Bool.true_or, Bool.or_eq_true, bne_iff_ne, ne_eq, Bool.and_eq_true] at h1 ⊢
              rcases h1 with h1 | h1
              · exact .inl fun e => h1 e.symm
              · exact .inr ⟨h1.2, h1.1⟩
            · have hk' : k < os.length := (List.getElem?_eq_some_iff.1 hC).1
              exact ((chk k ops[k] C (Array.getElem?_eq_getElem (by omega)) hC).2 i (hafter k e) B hB).1
          exact apartD_late hap hkeep (ht k hkL C hC)
        refine wpOp_mono (fun a' w' hn => ?_) (vop_sound h hK ho his hk)
        obtain ⟨x', s', ⟨h1, h2⟩, h3⟩ := hn
        exact ⟨x', s', h1, h2, h3⟩
      · have h1 : (List.range ops.size).filter (fun k => !(listed.setIfInBounds i true).getD k true) = L.filter fun k => k != i := by
          rw [hL, List.filter_filter]
          refine List.filter_congr fun k hk => ?_
          by_cases e : i = k
          · subst e
            simp [Array.getD, hsz, hisz]
          · rw [getD_set_ne true e]
            have : (k != i) = true := by simpa using fun e' => e e'.symm
            rw [this, Bool.true_and]
        rw [h1, hsplit, List.filter_append, List.filter_cons_of_neg (by simp)]
        rw [List.filter_eq_self.2 (fun k hk => by have := hbefore k hk; simp; omega), List.filter_eq_self.2 (fun k hk => by have := hafter k hk; simp; omega)]
      · intro k ok hk hok e he hb
        by_cases eik : i = k
        · subst eik
          rw [ho] at hok
          obtain rfl := Option.some.inj hok
          exact getD_set_true (haft e he hb)
        · rw [getD_set_ne false eik] at hk
          exact getD_set_true (hcl k ok hk hok e he hb)
  intro fuel
  induction fuel with
  | zero =>
    intro listed L x a w s hsz hL hfu hcl hv ht h
    have hnil : L = [] := List.eq_nil_of_length_eq_zero (by omega)
    have hr : Region.ready .any ops listed = [] := by
      cases hr : Region.ready .any ops listed with
      | nil => rfl
      | cons i r =>
        exfalso
        obtain ⟨hun, o, ho, _⟩ := mem_ready.1 (show i ∈ Region.ready .any ops listed by rw [hr]; exact List.mem_cons_self)
        have : i ∈ L := by rw [hL]; exact (inL listed i).2 ⟨(Array.getElem?_eq_some_iff.1 ho).1, hun⟩
        rw [hnil] at this; cases this
    subst hnil
    exact ⟨hr, hQ a w ⟨x, s, hv, h⟩⟩
  | succ fuel ih =>
    intro listed L x a w s hsz hL hfu hcl hv ht h
    obtain ⟨m1, m2⟩ := main (fuel + 1) listed L x a w s hsz hL hfu hcl hv ht h
    refine ⟨fun hr => ?_, fun i hi => ?_⟩
    · have := m1 hr
      subst this
      exact hQ a w ⟨x, s, hv, h⟩
    · obtain ⟨L', h1, h2, h3, h4⟩ := m2 i hi
      refine wpOp_mono (fun a' w' hn => ?_) h1
      obtain ⟨x', s', g1, g2, g3⟩ := hn
      exact ih _ L' x' a' w' s' (by simpa using hsz) h2 (by omega) h4 g1 g2 g3
theorem draw_sound (hK : ∀ n, n < pb → E.ng ≤ x0.bx n) (id : Nat) (ops : Array Oper) (os : List VO) (Q : AS → Prop) (x : X) (a : Act) (w : World) (s : AS) (hops : cReg E.P true nt ops ops.toList = some os) (hchk : chkR ops os = true) (ht : os.all (tmpOk s) = true) (hv : vops E os s Q) (h : St E x0 w0 pb nt x a w s) : (Code.region id ops true).wp E.P (CQ E x0 w0 pb nt fun e s => e = .normal ∧ Q s) a w := by
  obtain ⟨hlen, _⟩ := cReg_spec hops
  have hlen' : os.length = ops.size := by rw [hlen]; simp
  refine wp_region_any E.mixed ?_
  have hno : ∀ k, k < ops.size → (Array.replicate ops.size false).getD k true = false := fun k hk => by simp [Array.getD, hk]
  refine any_sound (Q := Q) hK hops hchk (fun a w hn => ?_) ops.size _ (List.range ops.size) x a _ s (by simp) ?_ (by simp) ?_ ?_ ?_ (h.drew _)
  · obtain ⟨x', s', h1, h2⟩ := hn
    exact ⟨x', s', ⟨rfl, h1⟩, h2⟩
  · exact (List.filter_eq_self.2 fun k hk => by rw [hno k (List.mem_range.1 hk)]; rfl).symm
  · intro i o hi ho
    rw [Array.getD_eq_getD_getElem?, Array.getElem?_replicate] at hi
    split at hi <;> cases hi
  · have := vL_of (E := E) (os := os) os 0 s Q rfl hv
    rw [hlen', ← List.range_eq_range'] at this
    exact this
  · intro i hi o ho
    exact List.all_eq_true.1 ht o (List.mem_of_getElem? ho)
end
end Go.Proofs.YticockdhfglolaaGreatDoor.Vm
/- An abstract machine over values: how a proof goes through a function. -/
namespace Go.Proofs.YticockdhfglolaaGreatDoor.Vm
open Go Go.RowKit
set_option linter.unusedVariables false
set_option linter.unusedSimpArgs false
theorem ntm {n nt : Nat} (h : (if n ≤ 1000000000000 then some n else none) = some nt) : n = nt ∧ n ≤ 1000000000000 := by
  split at h
  · exact ⟨Option.some.inj h, by assumption⟩
  · cases h
/-- From a function's code to its contract: the way all functions go. -/
theorem FxK.of {E : EnvK} {f : Nat} {fn : Func} {c : Code} {vc : VC} {rs : List VR} {dr : Nat → List Nat} (hf : E.P.funcs[f]? = some fn) (hb : fn.body = some c) (hc : cCode E.P fn.ntmps chkR dr c = some vc) (hr : cRes E.P fn.results.toList = some rs)
    (ks : List Nat) {bx bx' : List (List AV)} {args : List AV} {r : AV} (hlen : args.length ≤ fn.ntmps) (hntl : fn.ntmps ≤ 1000000000000) (hpb : bx.length ≤ 1000000000000) (hks : dd ks = ks) (hres : resOk r = true ∧ bx'.all resB.resBL = true ∧ bx'.length = bx.length)
    (hv : vx E vc ⟨enum 0 args, enum 0 bx⟩ fun e s => (e = .normal ∨ e = .ret) ∧ ∃ s1, Wk E.nk s1 s ∧ ∃ l, resVs s1 rs = some l ∧ r = reC ks (oneOr l) ∧ ∃ bs, bxsOf s1 (List.range bx.length) = some bs ∧ bx' = bs.map (reC.reL ks)) : FxK E.toEnv E.nk f bx args bx' r :=
  Fx_of hf hb hc hr (fun _ _ _ hK id ops os Q x a w s => draw_sound hK id ops os Q x a w s) ks (fun x a w _ _ h => ⟨x, h⟩) hlen hntl hpb hks hres hv
theorem Fx.of {E : Env} {f : Nat} {fn : Func} {c : Code} {vc : VC} {rs : List VR} {dr : Nat → List Nat} (hf : E.P.funcs[f]? = some fn) (hb : fn.body = some c) (hc : cCode E.P fn.ntmps chkR dr c = some vc) (hr : cRes E.P fn.results.toList = some rs)
    (ks : List Nat) {bx bx' : List (List AV)} {args : List AV} {r : AV} (hlen : args.length ≤ fn.ntmps) (hntl : fn.ntmps ≤ 1000000000000) (hpb : bx.length ≤ 1000000000000) (hks : dd ks = ks) (hres : resOk r = true ∧ bx'.all resB.resBL = true ∧ bx'.length = bx.length)
    (hv : vx E.pl vc ⟨enum 0 args, enum 0 bx⟩ fun e s => (e = .normal ∨ e = .ret) ∧ ∃ s1, Wk (fun _ => False) s1 s ∧ ∃ l, resVs s1 rs = some l ∧ r = reC ks (oneOr l) ∧ ∃ bs, bxsOf s1 (List.range bx.length) = some bs ∧ bx' = bs.map (reC.reL ks)) : Fx E f bx args bx' r :=
  FxK.of (E := E.pl) hf hb hc hr ks hlen hntl hpb hks hres hv
/-- A function without boxes. -/
theorem FxK.of0 {E : EnvK} {f : Nat} {fn : Func} {c : Code} {vc : VC} {rs : List VR} {dr : Nat → List Nat} (hf : E.P.funcs[f]? = some fn) (hb : fn.body = some c) (hc : cCode E.P fn.ntmps chkR dr c = some vc) (hr : cRes E.P fn.results.toList = some rs)
    {args : List AV} {r : AV} (hlen : args.length ≤ fn.ntmps) (hntl : fn.ntmps ≤ 1000000000000) (ks : List Nat) (hks : dd ks = ks) (hres : resOk r = true)
    (hv : vx E vc ⟨enum 0 args, []⟩ fun e s => (e = .normal ∨ e = .ret) ∧ ∃ s1, Wk E.nk s1 s ∧ ∃ l, resVs s1 rs = some l ∧ r = reC ks (oneOr l)) : FxK E.toEnv E.nk f [] args [] r := by
  refine FxK.of hf hb hc hr ks hlen hntl (by simp) hks ⟨hres, rfl, rfl⟩ ?_
  have mono : ∀ (vc : VC) (s : AS) (Q Q' : Ex → AS → Prop), vx E vc s Q → (∀ e s, Q e s → Q' e s) → vx E vc s Q' := by
    intro vc
    induction vc with
    | skip => exact fun s Q Q' h hm => hm _ _ h
    | ret => exact fun s Q Q' h hm => hm _ _ h
    | exit n => exact fun s Q Q' h hm => hm _ _ h
    | seq a b iha ihb =>
      refine fun s Q Q' h hm => iha s _ _ h fun e s' h' => ?_
      cases e with
      | normal => exact ihb _ _ _ h' hm
      | ret => exact hm _ _ h'
      | exit n => exact hm _ _ h'
    | cond c a b iha ihb =>
      rintro s Q Q' ⟨t, h1, h2⟩ hm
      refine ⟨t, h1, ?_⟩
      cases t with
      | true => exact iha _ _ _ h2 hm
      | false => exact ihb _ _ _ h2 hm
    | block n c ih =>
      refine fun s Q Q' h hm => ih s _ _ h fun e s' h' => ?_
      split at h'
      · rename_i e'; rw [if_pos e']; exact hm _ _ h'
      · rename_i e'; rw [if_neg e']; exact hm _ _ h'
    | loop c ih =>
      rintro s Q Q' ⟨n, h⟩ hm
      refine ⟨n, ?_⟩
      induction n generalizing s with
      | zero => exact h
      | succ n ihn =>
        obtain ⟨s1, h1, h2⟩ := h
        refine ⟨s1, h1, ih _ _ _ h2 fun e s' h' => ?_⟩
        cases e with
        | normal => exact ihn s' h'
        | ret => exact hm _ _ h'
        | exit n => exact hm _ _ h'
    | reg drw os dr =>
      rintro s Q Q' ⟨h1, h2⟩ hm
      refine ⟨h1, ?_⟩
      exact vops_mono _ _ _ _ h2 fun s h => hm _ _ h
    | regw o1 o2 dr => exact fun s Q Q' h hm => vops_mono _ _ _ _ h fun s' ⟨s1, hw, h2⟩ => ⟨s1, hw, vops_mono _ _ _ _ h2 fun s h => hm _ _ h⟩
  refine mono vc _ _ _ hv ?_
  rintro e s ⟨he, s1, hw, l, h1, h2⟩
  exact ⟨he, s1, hw, l, h1, h2, [], rfl, rfl⟩
theorem Fx.of0 {E : Env} {f : Nat} {fn : Func} {c : Code} {vc : VC} {rs : List VR} {dr : Nat → List Nat} (hf : E.P.funcs[f]? = some fn) (hb : fn.body = some c) (hc : cCode E.P fn.ntmps chkR dr c = some vc) (hr : cRes E.P fn.results.toList = some rs)
    {args : List AV} {r : AV} (hlen : args.length ≤ fn.ntmps) (hntl : fn.ntmps ≤ 1000000000000) (ks : List Nat) (hks : dd ks = ks) (hres : resOk r = true)
    (hv : vx E.pl vc ⟨enum 0 args, []⟩ fun e s => (e = .normal ∨ e = .ret) ∧ ∃ s1, Wk (fun _ => False) s1 s ∧ ∃ l, resVs s1 rs = some l ∧ r = reC ks (oneOr l)) : Fx E f [] args [] r :=
  FxK.of0 (E := E.pl) hf hb hc hr hlen hntl ks hks hres hv
theorem vx_mono {E : EnvK} : ∀ (vc : VC) (s : AS) (Q Q' : Ex → AS → Prop), vx E vc s Q → (∀ e s, Q e s → Q' e s) → vx E vc s Q' := by
  intro vc
  induction vc with
  | skip => exact fun s Q Q' h hm => hm _ _ h
  | ret => exact fun s Q Q' h hm => hm _ _ h
  | exit n => exact fun s Q Q' h hm => hm _ _ h
  | seq a b iha ihb =>
    refine fun s Q Q' h hm => iha s _ _ h fun e s' h' => ?_
    cases e with
    | normal => exact ihb _ _ _ h' hm
    | ret => exact hm _ _ h'
    | exit n => exact hm _ _ h'
  | cond c a b iha ihb =>
    rintro s Q Q' ⟨t, h1, h2⟩ hm
    refine ⟨t, h1, ?_⟩
    cases t with
    | true => exact iha _ _ _ h2 hm
    | false => exact ihb _ _ _ h2 hm
  | block n c ih =>
    refine fun s Q Q' h hm => ih s _ _ h fun e s' h' => ?_
    split at h'
    · rename_i e'; rw [if_pos e']; exact hm _ _ h'
    · rename_i e'; rw [if_neg e']; exact hm _ _ h'
  | loop c ih =>
    rintro s Q Q' ⟨n, h⟩ hm
    refine ⟨n, ?_⟩
    induction n generalizing s with
    | zero => exact h
    | succ n ihn =>
      obtain ⟨s1, h1, h2⟩ := h
      refine ⟨s1, h1, ih _ _ _ h2 fun e s' h' => ?_⟩
      cases e with
      | normal => exact ihn s' h'
      | ret => exact hm _ _ h'
      | exit n => exact hm _ _ h'
  | reg drw os dr =>
    rintro s Q Q' ⟨h1, h2⟩ hm
    refine ⟨h1, ?_⟩
    exact vops_mono _ _ _ _ h2 fun s h => hm _ _ h
  | regw o1 o2 dr => exact fun s Q Q' h hm => vops_mono _ _ _ _ h fun s' ⟨s1, hw, h2⟩ => ⟨s1, hw, vops_mono _ _ _ _ h2 fun s h => hm _ _ h⟩
/-- A loop by its states: 'st' tells the state of a round, 'm' shrinks. -/
theorem vx_loop {E : EnvK} {c : VC} {Q : Ex → AS → Prop} {τ : Type} (st : τ → AS) (I : τ → Prop) (m : τ → Nat) (step : ∀ i, I i → vx E c (st i) fun e s' => match e with | .normal => ∃ j, I j ∧ m j < m i ∧ Wk E.nk (st j) s' | e => Q e s') {s : AS} (i : τ) (hi : I i) (hw : Wk E.nk (st i) s) : vx E (.loop c) s Q := by
  have all : ∀ n i s, I i → m i < n → Wk E.nk (st i) s → iter E.nk (vx E c) Q n s := by
    intro n
    induction n with
    | zero => intro i s _ h; omega
    | succ n ih =>
      intro i s hi hn hw
      refine ⟨st i, hw, vx_mono c _ _ _ (step i hi) fun e s' h => ?_⟩
      cases e with
      | normal =>
        obtain ⟨j, hj, hm, hw⟩ := h
        exact ih j s' hj (by omega) hw
      | ret => exact h
      | exit n => exact h
  exact ⟨m i + 1, all _ i s hi (by omega) hw⟩
/-- A state told anew, place for place. -/
def wkL (s : AS) : List (Nat × AV) → Prop
  | [] => True
  | (t, v) :: l => wkV v (s.get t) ∧ wkL s l
theorem Wk.envL {K : Nat → Prop} {s : AS} {l : List (Nat × AV)} (h : wkL s l) : Wk K ⟨l, s.bxs⟩ s := by
  refine .env s l ?_
  induction l with
  | nil => intro t v hl; cases hl
  | cons p l ih =>
    obtain ⟨u, y⟩ := p
    intro t v hl
    simp only [look] at hl
    split at hl
    · rename_i e
      subst e
      obtain rfl := Option.some.inj hl
      exact h.1
    · exact ih h.2 t v hl
def wkB (s : AS) : List (Nat × List AV) → Prop
  | [] => True
  | (t, v) :: l => look s.bxs t = some v ∧ wkB s l
theorem Wk.bxsL {K : Nat → Prop} {s : AS} {l : List (Nat × List AV)} (h : wkB s l) : Wk K ⟨s.env, l⟩ s := by
  refine .bxs s l ?_
  induction l with
  | nil => intro t v hl; cases hl
  | cons p l ih =>
    obtain ⟨u, y⟩ := p
    intro t v hl
    simp only [look] at hl
    split at hl
    · rename_i e
      subst e
      obtain rfl := Option.some.inj hl
      exact h.1
    · exact ih h.2 t v hl
theorem Wk.both {K : Nat → Prop} {s : AS} {l : List (Nat × AV)} {b : List (Nat × List AV)} (h : wkL s l) (hb : wkB s b) : Wk K ⟨l, b⟩ s := .trans (b := ⟨l, s.bxs⟩) (.bxsL (s := ⟨l, s.bxs⟩) (l := b) (by
  induction b with
  | nil => trivial
  | cons p b ih => exact ⟨hb.1, ih hb.2⟩)) (.envL h)
theorem wkV.same (v : AV) : wkV v v := .inl rfl
theorem wkV.un (v : AV) : wkV .un v := .inr (.inl rfl)
end Go.Proofs.YticockdhfglolaaGreatDoor.Vm
