/- An abstract machine over values: every operation does what it is said to do. -/
import Derived.Test.YtpopccnnjpdmlaaVmM
import Derived.Laws.BytesArg
import Derived.IntWalk
namespace Go.Proofs.Ytpopccnnjpdmlaa.Vm
open Go Go.RowKit
set_option linter.unusedVariables false
set_option linter.unusedSimpArgs false
section
variable {E : Env} {x0 x : X} {w0 w : World} {pb nt : Nat} {a : Act} {s : AS}
/-- What an operation's end must be. -/
abbrev Next2 (E : Env) (x0 : X) (w0 : World) (pb nt : Nat) (Q : AS → Prop) (a' : Act) (w' : World) : Prop := ∃ x' s', Q s' ∧ St E x0 w0 pb nt x' a' w' s'
theorem v_run {P : Program} {m : Sem Value} {v : Value} {w w' : World} (h : m.run P w = .ok v w') : (do pure (Next.value (← m)) : Sem Next).run P w = .ok (.value v) w' := by
  simp [h]
theorem relv (h : St E x0 w0 pb nt x a w s) {y : Operand} {y' : Od} (hy : od y = some y') : Rel x w0.heap.size (a.eval y) (s.val y') := od_rel h.env hy
theorem litv (h : St E x0 w0 pb nt x a w s) {y : Operand} {y' : Od} {u : Value} (hy : od y = some y') (hv : s.val y' = .lit u) : a.eval y = u := by
  have r := relv h hy
  rw [hv] at r
  exact r.lit_inv
theorem slice_rel {x : X} {base : Nat} {v : Value} {m : Mk} {z : Nat} {xs : List AV} {ap : Ap} (r : Rel x base v (.sl m z xs)) {l h : Nat} (hl : l ≤ h) (hh : h ≤ xs.length) (hap : ap = .no ∨ (ap = noOw m.ap ∧ h = xs.length)) :
    ∃ A cap, v = .slice A xs.length cap ∧ xs.length ≤ cap ∧ Rel x base (.slice (if cap = l then A else A.map (·.add (l * z))) (h - l) (cap - l)) (.sl ⟨ap, m.fr⟩ z ((xs.take h).drop l)) := by
  have data : ∀ {G : Gh}, RepD G v (.sl m z xs) → ∃ A cap, v = .slice A xs.length cap ∧ xs.length ≤ cap ∧ RepD G (.slice (if cap = l then A else A.map (·.add (l * z))) (h - l) (cap - l)) (.sl ⟨ap, m.fr⟩ z ((xs.take h).drop l)) := by
    intro G hr
    cases hr with
    | sl A n cap _ _ _ b o f h1 h2 h3 h4 h5 h6 =>
      subst h1
      refine ⟨A, cap, rfl, h2, .sl _ _ _ _ _ _ b (o + l * z) (fun i j => f (i + l) j) (by simp; omega) (by omega) (fun hne => ?_) (fun i y hy => ?_) (fun i y j c hy hc => ?_) (fun i y j c hy hc => ?_)⟩
      · have hlt : l < h := by
          rcases Nat.lt_or_ge l h with h7 | h7
          · exact h7
          · exact (hne (by rw [List.drop_eq_nil_iff]; simp; omega)).elim
        have hxs : xs ≠ [] := by rintro rfl; simp at hh; omega
        rw [if_neg (by omega), h3 hxs, Option.map_some, add0]
      all_goals
        rw [List.getElem?_drop, List.getElem?_take] at hy
        split at hy
        · first
          | exact h4 _ _ hy
          | (have := h5 _ _ _ _ hy hc
             rw [Nat.add_comm l i] at this
             rw [show o + l * z + i * z + j = o + (i + l) * z + j by rw [Nat.add_mul]; omega]
             exact this)
          | (have := h6 _ _ _ _ hy hc
             rw [Nat.add_comm l i] at this
             exact this)
        · cases hy
  cases r with
  | sl _ _ _ _ h1 h2 h3 =>
    obtain ⟨A, cap, e1, e2, e3⟩ := data h1
    refine ⟨A, cap, e1, e2, .sl _ _ _ _ e3 (fun hf => ?_) ?_⟩
    · obtain ⟨A', cap', e4, e5, e6⟩ := data (h2 hf)
      rw [e1] at e4
      injection e4 with q1 _ q2
      rw [q1, q2]; exact e6
    · rcases hap with rfl | ⟨rfl, hh2⟩
      · trivial
      · cases hm : m.ap with
        | no => trivial
        | nl =>
          rw [hm] at h3
          obtain ⟨A', e⟩ := h3
          rw [e1] at e
          injection e with q1 q2 q3
          have : h - l = 0 ∧ cap - l = 0 := by omega
          exact ⟨_, by rw [this.1, this.2]⟩
        | ow t => trivial
        | cl c =>
          rw [hm] at h3
          rcases h3 with ⟨A', e⟩ | ⟨b, o, n, cap', e, ht⟩
          · rw [e1] at e
            injection e with q1 q2 q3
            have : h - l = 0 ∧ cap - l = 0 := by omega
            exact .inl ⟨_, by rw [this.1, this.2]⟩
          · rw [e1] at e
            injection e with q1 q2 q3
            subst q1 q2 q3
            by_cases hc : cap = l
            · exact .inl ⟨_, by rw [show h - l = 0 by omega, show cap - l = 0 by omega]⟩
            · refine .inr ⟨b, o + l * z, h - l, cap - l, by rw [if_neg hc, Option.map_some, add0], ?_⟩
              rw [ht]
              have e1 : l * z + (h - l) * z = xs.length * z := by rw [← Nat.add_mul]; congr 1; omega
              have e2 : l * z + (cap - l) * z = cap * z := by rw [← Nat.add_mul]; congr 1; omega
              rw [show o + l * z + (h - l) * z = o + xs.length * z by omega, show o + l * z + (cap - l) * z = o + cap * z by omega]
theorem b2s_run {P : Program} {A : Option Addr} {n cap : Nat} {l : List UInt8} {b o : Nat} (hn : n = l.length) (hA : l ≠ [] → A = some ⟨b, o, none⟩) (w : World) (hc : ∀ (k : Nat) (u : UInt8), l[k]? = some u → w.cell? ⟨b, o + k, none⟩ = some (.int .u8 u.toNat)) : (Conv.bytesToString (.slice A n cap)).run P w = .ok (.string ⟨l.toArray⟩) w := by
  subst hn
  cases A with
  | none =>
    have : l = [] := by
      cases l with
      | nil => rfl
      | cons x l => have := hA (by simp); cases this
    subst this
    rfl
  | some ad =>
    have hl := run_loadCells_list (P := P) w ad (l.map fun u => Value.int .u8 u.toNat) (fun j v hv => by
      rw [List.getElem?_map] at hv
      obtain ⟨u, hu, rfl⟩ := Option.map_eq_some_iff.1 hv
      have hne : l ≠ [] := by rintro rfl; simp at hu
      have := hA hne
      injection this with this
      rw [this, add0]
      exact hc j u hu)
    rw [List.length_map] at hl
    rw [run_bytesToString w ad l.length cap (l.map fun u => (u.toNat : Int)) (by rw [hl, List.map_map]; rfl), foldl_push_bytes]
    congr 2
    apply ByteArray.ext
    simp [ByteArray.empty, ByteArray.emptyWithCapacity]
    show List.map ((fun n => UInt8.ofNat n.toNat) ∘ fun u : UInt8 => (u.toNat : Int)) l = l
    rw [show ((fun n : Int => UInt8.ofNat n.toNat) ∘ fun u : UInt8 => (u.toNat : Int)) = id from by funext u; simp, List.map_id]
theorem ofV_cells (x : X) (base : Nat) (z : Value) : z.cells.size = (AV.ofV z).cells.length ∧ ∀ (j : Nat) (v : Value) (c : AV), z.cells[j]? = some v → (AV.ofV z).cells[j]? = some c → Rel x base v c := by
  have leaf : z.cells = #[z] → AV.ofV z = AV.ofC z → z.cells.size = (AV.ofV z).cells.length ∧ ∀ (j : Nat) (v : Value) (c : AV), z.cells[j]? = some v → (AV.ofV z).cells[j]? = some c → Rel x base v c := by
    intro h1 h2
    have h3 : (AV.ofC z).cells = [AV.ofC z] := by
      unfold AV.ofC
      split
      · rfl
      · split <;> rfl
    rw [h1, h2, h3]
    refine ⟨rfl, fun j v c hv hc => ?_⟩
    cases j with
    | zero =>
      simp at hv hc
      subst hv hc
      exact ofC_rel _ _ _
    | succ j => simp at hc
  cases z with
  | agg cs =>
    refine ⟨by simp [AV.ofV, Value.cells, AV.cells], fun j v c hv hc => ?_⟩
    simp only [AV.ofV, AV.cells, List.getElem?_map, Array.getElem?_toList] at hc
    simp only [Value.cells] at hv
    rw [hv] at hc
    obtain rfl := Option.some.inj hc
    exact ofC_rel _ _ _
  | _ => exact leaf rfl rfl
theorem call_run (h : St E x0 w0 pb nt x a w s) (hK : ∀ n, n < pb → E.ng ≤ x0.bx n) {q : Bool} {d : Option Nat} (hd : ∀ t, d = some t → t < nt) {f : Nat} {args : Array Value} {vs : List AV} (hlen : args.size = vs.length) (hargs : ∀ (i : Nat) (v : Value) (c : AV), args[i]? = some v → vs[i]? = some c → Rel x w0.heap.size v c) {Q : AS → Prop} (hv : vcall E q s d f vs Q) :
    Calls E.P f args w fun
      | .returned v, w'' => Next2 E x0 w0 pb nt Q (a.put d v) w''
      | .panicked chain, w'' => False
      | .outgrown, _ => False := by
  obtain ⟨h1, h2, t, rfl, h3, bs, h4, h5, bs', r, h6, h7, hq⟩ := hv
  refine (h.call hK (q := q) (hd t rfl) hlen hargs h1 h3 h4 h5 h6 h7).mono ?_
  rintro e w' ⟨v, x', rfl, hst, _⟩
  exact ⟨x', _, hq, hst⟩
theorem call_run2 (h : St E x0 w0 pb nt x a w s) (hK : ∀ n, n < pb → E.ng ≤ x0.bx n) {q : Bool} {d : Option Nat} (hd : ∀ t, d = some t → t < nt) {f : Nat} {args : Array Value} {vs : List AV} (hlen : args.size = vs.length) (hargs : ∀ (i : Nat) (v : Value) (c : AV), args[i]? = some v → vs[i]? = some c → Rel x w0.heap.size v c) {Q : AS → Prop} (hv : vcall2 E q s d f vs Q) :
    Calls E.P f args w fun
      | .returned v, w'' => Next2 E x0 w0 pb nt Q (a.put d v) w''
      | .panicked chain, w'' => False
      | .outgrown, _ => False := by
  rcases hv with hv | ⟨_, hv⟩
  · exact call_run h hK hd hlen hargs hv
  · refine (hv x0 w0 pb nt x a w h hK hd args hlen hargs).mono ?_
    rintro e w' ⟨v, x', s', rfl, hq, _, hst⟩
    exact ⟨x', s', hq, hst⟩
theorem vact_sound (h : St E x0 w0 pb nt x a w s) (hK : ∀ n, n < pb → E.ng ≤ x0.bx n) {q : Bool} {o : Oper} {k : VK} (hc : cOp E.P q o.op = some k) (hd : ∀ t, o.dst = some t → t < nt) {Q : AS → Prop} (hv : vact E s o.dst Q k) {QQ : Exit → Act → World → Prop} : o.wp E.P a w (Next2 E x0 w0 pb nt Q) QQ := by
  have done : ∀ {v : Value} {av : AV}, (execOp a.eval o).run E.P w = .ok (.value v) w → Rel x w0.heap.size v av → Q (s.putO o.dst av) → o.wp E.P a w (Next2 E x0 w0 pb nt Q) QQ := fun hr r hq => wpv hr ⟨x, _, hq, h.put hd r⟩
  obtain ⟨dst, op, type, pos, after, guard⟩ := o
  simp only at hc hd hv done
  cases op
  case move y =>
    obtain ⟨y', hy, e⟩ := Option.bind_eq_some_iff.1 hc
    obtain rfl := Option.some.inj e
    exact done rfl (relv h hy) hv
  case assign y =>
    obtain ⟨y', hy, e⟩ := Option.bind_eq_some_iff.1 hc
    obtain rfl := Option.some.inj e
    exact done rfl (relv h hy) hv
  case pick c y z =>
    obtain ⟨c', hcc, e⟩ := Option.bind_eq_some_iff.1 hc
    obtain ⟨y', hy, e⟩ := Option.bind_eq_some_iff.1 e
    obtain ⟨z', hz, e⟩ := Option.bind_eq_some_iff.1 e
    obtain rfl := Option.some.inj e
    obtain ⟨t, ht, hq⟩ := hv
    have e1 := litv h hcc ht
    cases t with
    | true => exact done (v := a.eval y) (by simp [execOp, e1, asBool]) (relv h hy) hq
    | false => exact done (v := a.eval z) (by simp [execOp, e1, asBool]) (relv h hz) hq
  case binOp op t y z u =>
    simp only [cOp] at hc
    cases hnil : nilC E.P op t z with
    | some neg =>
      rw [hnil] at hc
      obtain ⟨y', hy, e⟩ := Option.bind_eq_some_iff.1 hc
      obtain rfl := Option.some.inj e
      obtain ⟨m, zz, xs, h1, hq⟩ := hv
      have r := relv h hy
      rw [h1] at r
      obtain ⟨v, ha⟩ : ∃ v, a.eval y = v := ⟨_, rfl⟩
      rw [ha] at r
      unfold nilC at hnil
      split at hnil
      · split at hnil
        · rename_i hel
          obtain ⟨e0, he⟩ := Option.isSome_iff_exists.1 hel
          cases r with
          | sl _ _ _ _ d1 d2 d3 =>
            cases d1 with
            | sl A n cap _ _ _ b o f g1 g2 g3 g4 g5 g6 =>
              have heq : (Op.equal t (.slice A n cap) (.slice none 0 0)).run E.P w = .ok A.isNone w := by
                unfold Op.equal Op.maxDepth
                show (Op.equalIn (9999 + 1) t _ _).run E.P w = _
                unfold Op.equalIn
                rw [Sem.run_bind, run_underlying (elOf_spec he) w]
                cases A <;> rfl
              have hA : xs ≠ [] → A.isNone = false := fun hne => by rw [g3 hne]; rfl
              cases op <;> simp only at hnil <;> (try (cases hnil; done))
              all_goals obtain rfl := Option.some.inj hnil
              · refine done (v := .bool A.isNone) (v_run (by rw [ha]; simp [eqGuard, binOp, heq, Act.eval])) (.lit _ rfl) (hq _ hA)
              · refine done (v := .bool (!A.isNone)) (v_run (by rw [ha]; simp [eqGuard, binOp, heq, Act.eval])) (.lit _ rfl) (hq _ fun hne => by rw [hA hne]; rfl)
        · cases hnil
      · cases hnil
    | none =>
    rw [hnil] at hc
    obtain ⟨y', hy, e⟩ := Option.bind_eq_some_iff.1 hc
    obtain ⟨z', hz, e⟩ := Option.bind_eq_some_iff.1 e
    obtain rfl := Option.some.inj e
    obtain ⟨v, hv1, hq⟩ := hv
    have p1 : (if twoStr E.P t = true then 1 else if boolT E.P t = true then 2 else 0) = 1 → twoStr E.P t = true := by
      intro hh
      split at hh
      · assumption
      · split at hh <;> cases hh
    have p2 : (if twoStr E.P t = true then 1 else if boolT E.P t = true then 2 else 0) = 2 → boolT E.P t = true := by
      intro hh
      split at hh
      · cases hh
      · split at hh
        · assumption
        · cases hh
    obtain ⟨r1, r2⟩ := binV_run (P := E.P) p1 p2 (relv h hy) (relv h hz) hv1 y z w
    exact done (v_run r1) (.lit _ r2) hq
  case unOp op t y =>
    obtain ⟨y', hy, e⟩ := Option.bind_eq_some_iff.1 hc
    obtain rfl := Option.some.inj e
    obtain ⟨v, hv1, hq⟩ := hv
    obtain ⟨r1, r2⟩ := unV_run (P := E.P) (relv h hy) hv1 w
    exact done (v_run r1) (.lit _ r2) hq
  case index t y z =>
    simp only [cOp] at hc
    split at hc
    · rename_i hs
      obtain ⟨y', hy, e⟩ := Option.bind_eq_some_iff.1 hc
      obtain ⟨z', hz, e⟩ := Option.bind_eq_some_iff.1 e
      obtain rfl := Option.some.inj e
      obtain ⟨b, k, j, h1, h2, h3, h4, hq⟩ := hv
      have r := run_index_str (strT_spec hs) b k j h3 h4 w
      exact done (v_run (by rw [litv h hy h1, litv h hz h2]; exact r)) (.lit _ rfl) hq
    · cases hc
  case convert t1 t2 y =>
    obtain ⟨y', hy, e⟩ := Option.bind_eq_some_iff.1 hc
    split at e
    · rename_i k1 k2 hu1 hu2
      obtain rfl := Option.some.inj e
      obtain ⟨k', j, h1, hq⟩ := hv
      exact done (v_run (by rw [litv h hy h1]; simp [convert, run_underlying hu1, run_underlying hu2, Conv.intToInt])) (.lit _ rfl) hq
    · rename_i hu1 hu2
      obtain rfl := Option.some.inj e
      obtain ⟨b, h1, hq⟩ := hv
      exact done (v := .string b) (v_run (by rw [litv h hy h1]; simp [convert, run_underlying hu1, run_underlying hu2])) (.lit _ rfl) hq
    · rename_i e1 hu1 hu2
      split at e
      · rename_i hu3
        obtain rfl := Option.some.inj e
        obtain ⟨m, z, xs, l, h1, h2, h3, hq⟩ := hv
        have r := relv h hy
        rw [h1] at r
        obtain ⟨v, ha⟩ : ∃ v, a.eval y = v := ⟨_, rfl⟩
        rw [ha] at r
        cases r with
        | sl _ _ _ _ d1 d2 d3 =>
          obtain ⟨A, cap, b, o, news, n0, n1, n2, n3, n4, n5, n6, n7⟩ := sl_cells d1 (sz := 1) h2 (by omega)
          subst h3
          have hr := b2s_run (P := E.P) (A := A) (n := (l.map fun b : UInt8 => AV.lit (.int .u8 b.toNat)).length) (cap := cap) (l := l) (b := b) (o := o) (by simp) (fun hne => n4 (by simpa using hne)) w (fun k u hu => by
            obtain ⟨v, hv1, hv2⟩ := n7 k (.lit (.int .u8 u.toNat)) 0 (.lit (.int .u8 u.toNat)) (by rw [List.getElem?_map, hu]; rfl) rfl
            simp only [Nat.mul_one, Nat.add_zero] at hv1
            have := agree_cell h.ag (n5 k v hv1)
            rw [this]
            cases hv2
            rfl)
          exact done (v_run (by rw [ha, n0, run_convert_bytes_string w _ _ _ _ _ _ hu1 hu3 hu2]; exact hr)) (.lit _ rfl) hq
      · cases e
    · cases e
  case extract y i =>
    obtain ⟨y', hy, e⟩ := Option.bind_eq_some_iff.1 hc
    obtain rfl := Option.some.inj e
    obtain ⟨cs, c, h1, h2, hq⟩ := hv
    have r := relv h hy
    rw [h1] at r
    obtain ⟨v, ha⟩ : ∃ v, a.eval y = v := ⟨_, rfl⟩
    rw [ha] at r
    cases r with
    | tup vs _ hs hr =>
      have hlt : i < vs.size := by rw [hs]; exact (List.getElem?_eq_some_iff.1 h2).1
      exact done (v := vs[i]) (v_run (by rw [ha]; simp [Instr.extract, hlt])) (hr i _ c (Array.getElem?_eq_getElem hlt) h2) hq
  case makeFunc fn first cap =>
    simp only [cOp] at hc
    split at hc
    · rename_i f hf
      obtain ⟨l, hl, e⟩ := Option.bind_eq_some_iff.1 hc
      obtain rfl := Option.some.inj e
      obtain ⟨l1, l2⟩ := ods_rel h.env hl
      have hfirst : first = #[] := by cases first; simp at hf; rw [hf]
      subst hfirst
      refine done (v := .func (.func f) #[] (cap.map a.eval)) (by simp [execOp, Instr.makeFunc]) (.fn f _ _ (by simpa using l1) fun j v c hv1 hc1 => l2 j v c ?_ hc1) hv
      rw [Array.getElem?_map] at hv1
      simpa using hv1
    · cases hc
  case indexAddr t y z =>
    obtain ⟨e0, he, e⟩ := Option.bind_eq_some_iff.1 hc
    obtain ⟨sz, hsz, e⟩ := Option.bind_eq_some_iff.1 e
    obtain ⟨y', hy, e⟩ := Option.bind_eq_some_iff.1 e
    obtain ⟨z', hz, e⟩ := Option.bind_eq_some_iff.1 e
    obtain rfl := Option.some.inj e
    obtain ⟨k, j, h1, h2, h3⟩ := hv
    have r := relv h hy
    generalize hav : s.val y' = av at r h3
    obtain ⟨v, ha⟩ : ∃ v, a.eval y = v := ⟨_, rfl⟩
    rw [ha] at r
    cases r with
    | sl _ m z0 xs d1 d2 d3 =>
      obtain ⟨rfl, el, hel, hq⟩ := h3
      have data : ∀ {G : Gh}, RepD G v (.sl m z0 xs) → ∃ (b o n cap : Nat) (f : Nat → Value), v = .slice (some ⟨b, o, none⟩) n cap ∧ j < n ∧ (∀ (q : Nat) (c : AV), el.cells[q]? = some c → G b (o + j.toNat * z0 + q) = some (f q)) ∧ ∀ (q : Nat) (c : AV), el.cells[q]? = some c → RepD G (f q) c := by
        intro G hr
        cases hr with
        | sl A n cap _ _ _ b o f g1 g2 g3 g4 g5 g6 =>
          have hlt : j.toNat < xs.length := (List.getElem?_eq_some_iff.1 hel).1
          have hA := g3 (by rintro rfl; simp at hlt)
          exact ⟨b, o, n, cap, fun q => f j.toNat q, by rw [hA], by omega, fun q c hq => (g5 _ _ _ _ hel hq).1, fun q c hq => g6 _ _ _ _ hel hq⟩
      obtain ⟨b, o, n, cap, f, rfl, g2, g3, g4⟩ := data d1
      refine done (v_run (by rw [ha, litv h hz h1]; exact run_indexAt (elOf_spec he) hsz b o n cap k j h2 g2 w)) (.ep b _ m.fr _ f g3 g4 fun hf q c hq' => ?_) hq
      obtain ⟨b', o', n', cap', f', e1, _, g5, g6⟩ := data (d2 hf)
      injection e1 with e1 _ _
      injection e1 with e1
      injection e1 with e1 e2 _
      subst e1 e2
      have q1 := g3 q c hq'
      have q2 := from_le _ _ _ _ _ (g5 q c hq')
      rw [q1] at q2
      rw [Option.some.inj q2]
      exact g6 q c hq'
    | bs n z0 len cap hbz hcap =>
      obtain ⟨rfl, h4, hq⟩ := h3
      have := Rel.ptr (x := x) (base := w0.heap.size) n j.toNat 0
      rw [hbz, Nat.add_zero] at this
      exact done (v_run (by rw [ha, litv h hz h1]; exact run_indexAt (elOf_spec he) hsz (x.bx n) _ len cap k j h2 h4 w)) this hq
    | hs _ z0 xs hh =>
      obtain ⟨rfl, el, hel, hq⟩ := h3
      cases hh with
      | hs A n cap _ _ b o f g1 g2 g3 g4 g5 g6 g7 =>
        have hlt : j.toNat < xs.length := (List.getElem?_eq_some_iff.1 hel).1
        have hA := g3 (by rintro rfl; simp at hlt)
        subst hA
        exact done (v_run (by rw [ha, litv h hz h1]; exact run_indexAt (elOf_spec he) hsz b o n cap k j h2 (by omega) w)) (.hp b _ _ (fun q => f j.toNat q) (fun q c hq' e => g5 _ _ _ _ hel hq' e) (fun q c hq' e => ⟨g6 _ _ _ _ hel hq' e, g7 _ _ _ _ hel hq' e⟩)) hq
    | _ => exact h3.elim
  case fieldAddr t y f =>
    simp only [cOp] at hc
    split at hc
    · rename_i fs hu
      obtain ⟨fl, hf, e⟩ := Option.bind_eq_some_iff.1 hc
      obtain ⟨z, hz, e⟩ := Option.bind_eq_some_iff.1 e
      split at e
      · cases e
      · rename_i h0
        obtain ⟨y', hy, e⟩ := Option.bind_eq_some_iff.1 e
        obtain rfl := Option.some.inj e
        have r := relv h hy
        simp only [vact] at hv
        generalize hav : s.val y' = av at r hv
        obtain ⟨v, ha⟩ : ∃ v, a.eval y = v := ⟨_, rfl⟩
        rw [ha] at r
        cases r with
        | ep b o fr cs g g1 g2 g3 =>
          obtain ⟨h1, hq⟩ := hv
          refine done (v_run (by rw [ha]; exact run_fieldAt hu hf hz h0 b o w)) (.ep b _ fr _ (fun j => g (fl.offset + j)) (fun j c hj => ?_) (fun j c hj => ?_) fun hfr j c hj => ?_) hq
          all_goals rw [List.getElem?_drop] at hj
          · have := g1 _ c hj
            rwa [← Nat.add_assoc] at this
          · exact g2 _ c hj
          · exact g3 hfr _ c hj
        | ptr n i off =>
          have := Rel.ptr (x := x) (base := w0.heap.size) n i (off + fl.offset)
          rw [← Nat.add_assoc] at this
          exact done (v_run (by rw [ha]; exact run_fieldAt hu hf hz h0 _ _ w)) this hv
        | hp b o cs g g1 g2 =>
          obtain ⟨h1, hq⟩ := hv
          refine done (v_run (by rw [ha]; exact run_fieldAt hu hf hz h0 b o w)) (.hp b _ _ (fun j => g (fl.offset + j)) (fun j c hj e => ?_) (fun j c hj e => ?_)) hq
          all_goals rw [List.getElem?_drop] at hj
          · have := g1 _ c hj e
            rwa [← Nat.add_assoc] at this
          · have := g2 _ c hj e
            rwa [← Nat.add_assoc] at this
        | _ => exact hv.elim
    · cases hc
  case nilCheck y =>
    obtain ⟨y', hy, e⟩ := Option.bind_eq_some_iff.1 hc
    obtain rfl := Option.some.inj e
    have r := relv h hy
    simp only [vact] at hv
    generalize hav : s.val y' = av at r hv
    obtain ⟨v, ha⟩ : ∃ v, a.eval y = v := ⟨_, rfl⟩
    rw [ha] at r
    cases r with
    | ep b o fr cs g g1 g2 g3 =>
      obtain ⟨h1, hq⟩ := hv
      refine done (v := .pointer (some ⟨b, o, none⟩)) (by simp [execOp, ha]) ?_ hq
      simpa using Rel.ep (x := x) (base := w0.heap.size) b o fr cs g g1 g2 g3
    | ptr n i off => exact done (v := .pointer (some ⟨x.bx n, (x.bz n).2 + i * (x.bz n).1 + off, none⟩)) (by simp [execOp, ha]) (by simpa using Rel.ptr (x := x) (base := w0.heap.size) n i off) hv
    | hp b o cs g g1 g2 =>
      obtain ⟨h1, hq⟩ := hv
      exact done (v := .pointer (some ⟨b, o, none⟩)) (by simp [execOp, ha]) (by simpa using Rel.hp (x := x) (base := w0.heap.size) b o cs g g1 g2) hq
    | _ => exact hv.elim
  case load t y =>
    obtain ⟨g, hg, e⟩ := Option.bind_eq_some_iff.1 hc
    obtain ⟨sz, hsz, e⟩ := Option.bind_eq_some_iff.1 e
    obtain ⟨y', hy, e⟩ := Option.bind_eq_some_iff.1 e
    obtain rfl := Option.some.inj e
    have r := relv h hy
    simp only [vact] at hv
    generalize hav : s.val y' = av at r hv
    obtain ⟨v, ha⟩ : ∃ v, a.eval y = v := ⟨_, rfl⟩
    rw [ha] at r
    cases r with
    | ep b o fr cs f g1 g2 g3 =>
      have cell : ∀ j c, cs[j]? = some c → w.cell? ⟨b, o + j, none⟩ = some (f j) := fun j c hj => agree_cell h.ag (g1 j c hj)
      cases g with
      | true =>
        simp only [if_true] at hv
        obtain ⟨h1, hq⟩ := hv
        refine done (v_run (by rw [ha]; exact run_load_ag hg hsz b o f w fun j hj => cell j _ (List.getElem?_eq_getElem (by omega)))) (.agg _ _ (by simp [mkL_len]; omega) fun j u c hu hcc => ?_) hq
        rw [mkL_get] at hcc
        obtain ⟨c', hc', rfl⟩ := Option.map_eq_some_iff.1 hcc
        rw [List.getElem?_take] at hc'
        split at hc'
        · rename_i hj
          have : u = f j := by
            rw [List.getElem?_toArray, List.getElem?_map, List.getElem?_range hj] at hu
            exact (Option.some.inj hu).symm
          subst this
          exact rel_mkF (g2 j c' hc') fun hf => g3 hf j c' hc'
        · cases hc'
      | false =>
        simp only [Bool.false_eq_true, if_false] at hv
        obtain ⟨c, h1, hq⟩ := hv
        have := cell 0 c h1
        rw [Nat.add_zero] at this
        exact done (v_run (by rw [ha]; exact run_load_one hg b o _ w this)) (rel_mkF (g2 0 c h1) fun hf => g3 hf 0 c h1) hq
    | ptr n i off =>
      obtain ⟨l, el, hl, hel, hv⟩ := hv
      obtain ⟨⟨vals, ty, v1, v2, v3, v4⟩, _, _⟩ := h.bxs n l hl
      obtain ⟨v5, v6⟩ := v4 i el hel
      have cell : ∀ j c, el.cells[j]? = some c → ∃ u, w.cell? ⟨x.bx n, (x.bz n).2 + i * (x.bz n).1 + j, none⟩ = some u ∧ Rel x w0.heap.size u c := by
        intro j c hj
        obtain ⟨_, u, u1, _, u2⟩ := v6 j c hj
        exact ⟨u, by rw [cell_block v1]; exact u1, u2⟩
      cases g with
      | true =>
        simp only [if_true] at hv
        obtain ⟨h1, hq⟩ := hv
        have hrun := run_load_ag (P := E.P) hg hsz (x.bx n) ((x.bz n).2 + i * (x.bz n).1 + off) (fun j => ((w.cell? ⟨x.bx n, (x.bz n).2 + i * (x.bz n).1 + off + j, none⟩).getD undef)) w (fun j hj => by
          obtain ⟨u, hu, _⟩ := cell (off + j) (el.cells[off + j]'(by omega)) (List.getElem?_eq_getElem (by omega))
          rw [← Nat.add_assoc] at hu
          rw [hu]; rfl)
        refine done (v_run (by rw [ha]; exact hrun)) (.agg _ _ (by simp; omega) fun j u c hu hcc => ?_) hq
        · rw [List.getElem?_take] at hcc
          split at hcc
          · rename_i hj
            rw [List.getElem?_drop] at hcc
            obtain ⟨u', hu', hr⟩ := cell (off + j) c hcc
            rw [← Nat.add_assoc] at hu'
            have : u = u' := by
              rw [List.getElem?_toArray, List.getElem?_map, List.getElem?_range hj] at hu
              have := (Option.some.inj hu).symm
              simp only [hu', Option.getD_some] at this
              exact this
            rw [this]; exact hr
          · cases hcc
      | false =>
        simp only [Bool.false_eq_true, if_false] at hv
        obtain ⟨c, h1, hq⟩ := hv
        obtain ⟨u, hu, hr⟩ := cell off c h1
        exact done (v_run (by rw [ha]; exact run_load_one hg _ _ u w hu)) hr hq
    | hp b o cs f g1 g2 =>
      obtain ⟨rfl, zz, ys, h1, hq⟩ := hv
      obtain ⟨q1, q2⟩ := g2 0 (.hs zz ys) h1 (by intro e; cases e)
      have hu := agree_cell h.ag q1
      rw [Nat.add_zero] at hu
      generalize f 0 = u at q1 q2 hu
      refine done (v_run (by rw [ha]; exact run_load_one hg b o _ w hu)) ?_ hq
      cases q2 with
      | hs A n cap _ _ b2 o2 f2 k1 k2 k3 k4 k5 k6 k7 => exact .hs _ _ _ (.hs A n cap zz ys b2 o2 f2 k1 k2 k3 k4 k5 k6 k7)
    | _ => exact hv.elim
  case store t y z =>
    obtain ⟨sz, hsz, e⟩ := Option.bind_eq_some_iff.1 hc
    obtain ⟨y', hy, e⟩ := Option.bind_eq_some_iff.1 e
    obtain ⟨z', hz, e⟩ := Option.bind_eq_some_iff.1 e
    obtain rfl := Option.some.inj e
    rcases hv with hv | ⟨c, cs, h1, hun, rfl, h4, h5, hq⟩
    rotate_left
    · have r := relv h hy
      rw [h1] at r
      obtain ⟨v, ha⟩ : ∃ v, a.eval y = v := ⟨_, rfl⟩
      rw [ha] at r
      cases r with
      | hp b o _ f g1 g2 =>
        have hc0 : c = .un := by cases c <;> first | rfl | cases hun
        have hJ := g1 0 c rfl hc0
        rw [Nat.add_zero] at hJ
        obtain ⟨c1, c2, c3⟩ := rel_cells (relv h hz) h5
        obtain ⟨u, hu⟩ : ∃ u, (a.eval z).cells.toList = [u] := by
          have : (a.eval z).cells.toList.length = 1 := by simp [c1, h4]
          match hl : (a.eval z).cells.toList, this with
          | [u], _ => exact ⟨u, rfl⟩
        obtain ⟨vals, ty, b1, b2, hst⟩ := h.storeJ hJ u
        have hrun := run_storeAt (P := E.P) hsz b o (a.eval z) w vals ty b1 (by rw [c1]; exact h4) (by omega) c3
        unfold Oper.wp
        have : (execOp a.eval { dst := dst, op := Op.store t y z, type := type, pos := pos, after := after, guard := guard }).run E.P w = .ok .skip (w.setCells b o (a.eval z).cells.toList) := by
          simp [execOp, ha, hrun]
        rw [this, hu]
        exact ⟨x, _, hq, hst.put hd (.un _)⟩
    obtain ⟨n, i, off, h1, l, el, h2, h3, h4, h5, h6, h7, hq⟩ := hv
    have r := relv h hy
    rw [h1] at r
    obtain ⟨v, ha⟩ : ∃ v, a.eval y = v := ⟨_, rfl⟩
    rw [ha] at r
    cases r with
    | ptr =>
      obtain ⟨⟨vals, ty, b1, b2⟩, hst⟩ := h.store (o := off) h2 h3 (relv h hz) h7 (by omega) (by omega)
      obtain ⟨c1, c2, c3⟩ := rel_cells (relv h hz) h7
      have hrun := run_storeAt (P := E.P) hsz (x.bx n) ((x.bz n).2 + i * (x.bz n).1 + off) (a.eval z) w vals ty b1 (by rw [c1]; exact h5) (by rw [c1] at b2; omega) c3
      unfold Oper.wp
      have : (execOp a.eval { dst := dst, op := Op.store t y z, type := type, pos := pos, after := after, guard := guard }).run E.P w = .ok .skip (w.setCells (x.bx n) ((x.bz n).2 + i * (x.bz n).1 + off) (a.eval z).cells.toList) := by
        simp [execOp, ha, hrun]
      rw [this]
      exact ⟨x, _, hq, hst.put hd (.un _)⟩
  case box t y =>
    obtain ⟨sz, hsz, e⟩ := Option.bind_eq_some_iff.1 hc
    obtain ⟨y', hy, e⟩ := Option.bind_eq_some_iff.1 e
    obtain rfl := Option.some.inj e
    obtain ⟨tt, rfl, h1, h2, h3, h4, h5, hq⟩ := hv
    obtain ⟨c1, c2, c3⟩ := rel_cells (relv h hy) h3
    obtain ⟨x', hst⟩ := h.newBox (hd tt rfl) (l := [s.val y']) (sz := sz) (vals := (a.eval y).cells) (ty := t) (v := .pointer (some ⟨w.heap.size, 0, none⟩)) (av := .ptr (1000 + tt) 0 0) h4 (by simp [noB.noL, h5]) h2 (by simp [c1, h1]) (fun i e he => by
      cases i with
      | zero =>
        obtain rfl : s.val y' = e := by simpa using he
        refine ⟨h1, fun j c hj => ?_⟩
        obtain ⟨u, u1, u2, u3⟩ := c2 j c hj
        exact ⟨List.all_eq_true.1 h3 c (List.mem_of_getElem? hj), u, by simpa using u1, u3, u2⟩
      | succ i => simp at he) (fun x' e1 e2 => by have := Rel.ptr (x := x') (base := w0.heap.size) (1000 + tt) 0 0; simpa [e1, e2] using this)
    refine wpv (v := .pointer (some ⟨w.heap.size, 0, none⟩)) (w' := w.alloc (.cells (a.eval y).cells t)) ?_ ⟨x', _, hq, hst⟩
    simp only [execOp, Instr.box, newVar, newRow, Sem.run_bind, run_newObj, Result.andThen_ok, Sem.run_pure]
    rfl
  case alloc t =>
    obtain ⟨z, hz, e⟩ := Option.bind_eq_some_iff.1 hc
    obtain rfl := Option.some.inj e
    obtain ⟨tt, rfl, h1, h2, h3, h4, hq⟩ := hv
    have hr : Rel x w0.heap.size z (AV.ofV z) := ofV_rel _ _ _
    obtain ⟨c1, c2, c3⟩ := rel_cells hr h2
    unfold zeroOf at hz
    obtain ⟨ti, hi, hiz⟩ := Option.bind_eq_some_iff.1 hz
    have hzv : (zeroValue t).run E.P w = .ok z w := by simp [zeroValue, typeInfo, hi, hiz]
    obtain ⟨x', hst⟩ := h.newBox (hd tt rfl) (l := [AV.ofV z]) (sz := (AV.ofV z).cells.length) (vals := z.cells) (ty := t) (v := .pointer (some ⟨w.heap.size, 0, none⟩)) (av := .ptr (1000 + tt) 0 0) h3 (by simp [noB.noL, h4]) h1 (by simp [c1]) (fun i e he => by
      cases i with
      | zero =>
        obtain rfl : AV.ofV z = e := by simpa using he
        refine ⟨rfl, fun j c hj => ?_⟩
        obtain ⟨u, u1, u2, u3⟩ := c2 j c hj
        exact ⟨List.all_eq_true.1 h2 c (List.mem_of_getElem? hj), u, by simpa using u1, u3, u2⟩
      | succ i => simp at he) (fun x' e1 e2 => by have := Rel.ptr (x := x') (base := w0.heap.size) (1000 + tt) 0 0; simpa [e1, e2] using this)
    refine wpv (v := .pointer (some ⟨w.heap.size, 0, none⟩)) (w' := w.alloc (.cells z.cells t)) ?_ ⟨x', _, hq, hst⟩
    simp only [execOp, Instr.alloc, hzv, newVar, newRow, Sem.run_bind, run_newObj, Result.andThen_ok, Sem.run_pure]
    rfl
  case build t ps =>
    simp only [cOp] at hc
    split at hc
    · rename_i fs hu
      obtain ⟨z, hz, e⟩ := Option.bind_eq_some_iff.1 hc
      obtain ⟨pl, hpl, e⟩ := Option.bind_eq_some_iff.1 e
      obtain ⟨qs, hqs, e⟩ := Option.bind_eq_some_iff.1 e
      obtain rfl := Option.some.inj e
      obtain ⟨h1, cs, h2, hq⟩ := hv
      obtain ⟨z1, z2⟩ := ofV_cells x w0.heap.size z
      obtain ⟨vs', g1, g2, g3⟩ := bparts_spec h.env pl hqs h2 z1 z2 (fun p hp => List.all_eq_true.1 h1 p hp)
      exact done (v_run (run_build a.eval hu hz hpl g1 w)) (.agg _ _ g2 g3) hq
    · cases hc
  case slice t y lo hi mx =>
    simp only [cOp] at hc
    split at hc
    · cases hc
    · obtain ⟨y', hy, e⟩ := Option.bind_eq_some_iff.1 hc
      obtain ⟨lo', hlo, e⟩ := Option.bind_eq_some_iff.1 e
      obtain ⟨hi', hhi, e⟩ := Option.bind_eq_some_iff.1 e
      split at e
      · rename_i hu
        obtain rfl := Option.some.inj e
        obtain ⟨b, h1, l, hh, h2, hq⟩ := hv
        obtain ⟨q1, q2, q3⟩ := cut_spec (E := E) h.env hlo hhi h2 false b.size (Nat.le_refl _) w
        refine done (v := .string (b.extract l hh)) (v_run ?_) (.lit _ rfl) hq
        rw [litv h hy h1]
        simp [Instr.sliceAt, Instr.slice, run_underlying hu, q3]
      · rename_i e0 hu
        obtain ⟨sz, hsz, e⟩ := Option.bind_eq_some_iff.1 e
        obtain rfl := Option.some.inj e
        obtain ⟨m, z, xs, h1, h2, l, hh, h3, hq⟩ := hv
        have r := relv h hy
        rw [h1] at r
        obtain ⟨A0, cap0, ev, hc0⟩ : ∃ A cap, a.eval y = .slice A xs.length cap ∧ xs.length ≤ cap := by
          obtain ⟨v, ha⟩ : ∃ v, a.eval y = v := ⟨_, rfl⟩
          rw [ha] at r ⊢
          cases r with
          | sl _ _ _ _ d1 _ _ =>
            cases d1 with
            | sl A n cap _ _ _ b o f g1 g2 _ _ _ _ => exact ⟨A, cap, by rw [g1], by omega⟩
        obtain ⟨q1, q2, q3⟩ := cut_spec (E := E) h.env hlo hhi h3 true cap0 hc0 w
        have hfull : isNone hi' = true → hh = xs.length := by
          intro hn
          cases hi' with
          | some _ => cases hn
          | none =>
            unfold cutB at h3
            simp only at h3
            cases lo' with
            | none => simp only [Option.some.injEq, Prod.mk.injEq] at h3; exact h3.2.symm
            | some lo2 =>
              simp only at h3
              split at h3
              · split at h3
                · simp only [Option.some.injEq, Prod.mk.injEq] at h3; exact h3.2.symm
                · cases h3
              · cases h3
        obtain ⟨A, cap, e1, e2, e3⟩ := slice_rel (ap := if isNone hi' then noOw m.ap else .no) r q1 q2 (by
          cases hn : isNone hi' with
          | true => exact .inr ⟨by simp, hfull hn⟩
          | false => exact .inl (by simp))
        rw [ev] at e1
        injection e1 with e4 _ e5
        subst e4 e5
        have hlz : l * sz = l * z := by
          rcases h2 with rfl | rfl
          · rfl
          · have : l = 0 := by simp at q2; omega
            simp [this]
        refine done (v_run ?_) e3 hq
        rw [ev]
        simp [Instr.sliceAt, Instr.slice, run_underlying hu, q3, run_szOf hsz, hlz]
      · cases e
  case buildSlice t n ps =>
    obtain ⟨e0, he, e⟩ := Option.bind_eq_some_iff.1 hc
    obtain ⟨sz, hsz, e⟩ := Option.bind_eq_some_iff.1 e
    obtain ⟨xs, hxs, e⟩ := Option.bind_eq_some_iff.1 e
    split at e
    · rename_i hcond
      obtain ⟨c1, c2, c3, c4, c5⟩ := hcond
      obtain rfl := Option.some.inj e
      obtain ⟨tt, rfl, h1, h2, hq⟩ := hv
      obtain ⟨z, hz⟩ := Option.isSome_iff_exists.1 c5
      obtain ⟨l1, l2⟩ := sparts_spec h.env hxs
      have hn : ps.size = n := by rw [← c1, l1]; simp
      have each : ∀ (k : Nat) (c : AV), (s.vals xs)[k]? = some c → c.cells.length = sz ∧ dat c = true ∧ c.cells.all okC = true ∧ ∃ v, (ps.toList.map fun p => a.eval p.2)[k]? = some v ∧ Rel x w0.heap.size v c := by
        intro k c hk
        have := List.all_eq_true.1 h2 c (List.mem_of_getElem? hk)
        simp only [Bool.and_eq_true, decide_eq_true_eq] at this
        have hlt : k < (ps.toList.map fun p => a.eval p.2).length := by
          have h3 := (List.getElem?_eq_some_iff.1 hk).1
          rw [vals_len, l1] at h3
          simpa using h3
        exact ⟨this.1.1, this.1.2, this.2, _, List.getElem?_eq_getElem hlt, l2 k _ c (List.getElem?_eq_getElem hlt) hk⟩
      have hsize : ∀ p ∈ ps.toList, (a.eval p.2).cells.size = sz := by
        intro p hp
        obtain ⟨k, hk, rfl⟩ := List.getElem_of_mem hp
        have hlt : k < (s.vals xs).length := by rw [vals_len, l1]; exact hk
        obtain ⟨q1, q2, q3, v, q4, q5⟩ := each k _ (List.getElem?_eq_getElem hlt)
        have : v = a.eval ps.toList[k].2 := by
          rw [List.getElem?_map, List.getElem?_eq_getElem hk] at q4
          exact (Option.some.inj q4).symm
        subst this
        rw [(rel_cells q5 q3).1]; exact q1
      have h24 : n * sz ≤ 16777216 := by
        have := Nat.mul_le_mul c2 c4
        omega
      obtain ⟨cells, r1, r2, r3⟩ := run_buildSlice (P := E.P) (elOf_spec he) hsz hz hxs hn a.eval hsize h24 w
      have hbase := h.fr.2.2.2.1
      have hnone : ∀ o', x.G w.heap.size o' = none := fun o' => agree_new h.ag o'
      have hle := row_le (G := x.G) (b := w.heap.size) (o := 0) (n := n * sz) (f := fun k => cells.getD k undef) (fun o' _ _ => hnone o')
      obtain ⟨ad1, ad2⟩ := adapts_new (c := 64 * tt) (t := tt) h (by omega) h1 { x with G := x.G.row w.heap.size 0 (fun k => cells.getD k undef) (n * sz), tl := fun c => if c = 64 * tt then some (w.heap.size, n * sz, n * sz) else x.tl c } hle ⟨fun _ _ h => h, fun _ _ h => h, fun _ => rfl⟩ (fun n => ⟨rfl, rfl⟩) (fun k hk => if_neg hk)
      have hrow := h.row (w' := w.alloc (.cells cells e0)) (b := w.heap.size) (o := 0) (n := n * sz) (c0 := 64 * tt) (e1 := n * sz) (t1 := n * sz) (f := fun k => cells.getD k undef) (s' := s.putO (some tt) .un)
        hbase (fun o' _ _ => hnone o') ⟨cells, e0, alloc_new, by rw [r2]; exact Nat.le_refl _, fun k hk => by
          rw [Nat.zero_add, Array.getElem?_eq_getElem (by omega)]
          simp [Array.getD, show k < cells.size by omega], fun o' v hv => by rw [hnone o'] at hv; cases hv⟩ (fun k _ hk => alloc_old hk) (by simp) ⟨rfl, rfl, rfl⟩ ad1 ad2 (fun m l hl => by have := box_lt h hl; omega) (fun o' ho' => by
          unfold Gh.row
          rw [if_neg (by omega)]
          exact hnone o') (fun c e' t' ht' => by
          obtain ⟨_, ⟨vals2, ty2, q2, _⟩, _⟩ := h.tl.1 c _ _ _ ht'
          have := (Array.getElem?_eq_some_iff.1 q2).1
          omega) (fun k hk hl => Array.getElem?_eq_none (by simp; omega))
      have hcat := Rel.cat (x := x) (x' := { x with G := x.G.row w.heap.size 0 (fun k => cells.getD k undef) (n * sz), tl := fun c => if c = 64 * tt then some (w.heap.size, n * sz, n * sz) else x.tl c }) (base := w0.heap.size) (sz := sz) (b := w.heap.size) (o := 0) (cap := n) (c0 := 64 * tt) (fx := true) (fy := frA.frL (s.vals xs)) (xs := []) (ys := strip.stripL (s.vals xs)) (olds := []) (news := cells.toList) hle hbase (by simp [stripL_len, vals_len, c1]) (by simp) (by simp) (fun k u hk => by
          have hlt := (List.getElem?_eq_some_iff.1 hk).1
          simp only [List.length_nil, Nat.zero_mul, Nat.add_zero]
          rw [row_at (by rw [← r2]; simpa using hlt)]
          simp only [Array.getElem?_toList] at hk
          simp [Array.getD_eq_getD_getElem?, hk]) (by simp) (fun u hu => by
          obtain ⟨p, hp, rfl⟩ := List.getElem_of_mem hu
          have hp' : p < cells.size := by simpa using hp
          have hd : p / sz < n := by rw [Nat.div_lt_iff_lt_mul c3, ← r2]; exact hp'
          have hlt : p / sz < (s.vals xs).length := by rw [vals_len, c1]; exact hd
          obtain ⟨q1, q2, q3, v, q4, q5⟩ := each _ _ (List.getElem?_eq_getElem hlt)
          have hr := r3 _ v q4 (p % sz) (Nat.mod_lt _ c3)
          rw [Nat.mul_comm, Nat.div_add_mod, Array.getElem?_eq_getElem hp'] at hr
          have := (rel_cells q5 q3).2.2
          exact this _ (by rw [Array.getElem_toList]; exact List.mem_of_getElem? (by rw [Array.getElem?_toList]; exact hr.symm))) (by simp) (fun i y hy => by
          rw [stripL_get] at hy
          obtain ⟨c, hc', rfl⟩ := Option.map_eq_some_iff.1 hy
          rw [strip_cells, stripL_len]
          exact (each i c hc').1) (by simp) (fun i y j c hy hcy => by
          rw [stripL_get] at hy
          obtain ⟨c', hc', rfl⟩ := Option.map_eq_some_iff.1 hy
          obtain ⟨q1, q2, q3, v, q4, q5⟩ := each i c' hc'
          obtain ⟨u, u1, u2, u3, u4⟩ := rep_cells q5 q2 q3 j c hcy
          have hj : j < sz := by
            have := (List.getElem?_eq_some_iff.1 hcy).1
            rw [strip_cells, stripL_len] at this
            omega
          refine ⟨u, by rw [Array.getElem?_toList, r3 i v q4 j hj]; exact u1, u2, fun hf => u3 (frL_get hf hc')⟩) (by simp [stripL_len, vals_len, c1])
      simp only [List.nil_append, Bool.true_and, List.length_nil, Nat.zero_add, stripL_len, vals_len, c1] at hcat
      have hfin := hrow.put hd hcat
      simp only [AS.putO, put_put] at hfin
      exact wpv (v := .slice (some ⟨w.heap.size, 0, none⟩) n n) (v_run r1) ⟨_, _, hq, hfin⟩
    · cases e
  case makeSlice t n c =>
    simp only [cOp] at hc
    split at hc
    · rename_i i1 i2
      split at hc
      · rename_i hij
        subst hij
        obtain ⟨e0, he, e⟩ := Option.bind_eq_some_iff.1 hc
        obtain ⟨ti, hi, e⟩ := Option.bind_eq_some_iff.1 e
        obtain ⟨z, hz, e⟩ := Option.bind_eq_some_iff.1 e
        split at e
        · rename_i hcond
          obtain rfl := Option.some.inj e
          obtain ⟨tt, k, j, rfl, h1, h2, h3, h4, h5, h6, h7, h8, hq⟩ := hv
          obtain ⟨z1, z2⟩ := ofV_cells x w0.heap.size z
          obtain ⟨jn, rfl⟩ := Int.eq_ofNat_of_zero_le h2
          simp only [Int.toNat_natCast] at hq
          have ev : a.eval (.tmp i1) = .int k jn := litv h rfl h1
          have hzv : (zeroValue e0).run E.P w = .ok z w := by simp [zeroValue, typeInfo, hi, hz]
          have hw : IntKind.i64.wrap (jn : Int) = jn := IntWalk.i64_in _ (by omega)
          have hbytes : ¬ ((ti.bytes : Int) * (jn : Int) > 2 ^ 48) := by rw [Int.mul_comm]; omega
          have hrun : (Instr.makeSlice t (a.eval (.tmp i1)) (a.eval (.tmp i1))).run E.P w = .ok (.slice (some ⟨w.heap.size, 0, none⟩) jn jn) (w.alloc (.cells ((Array.range (jn * ti.size)).map (z.cells[· % z.cells.size]!)) e0)) := by
            rw [ev]
            unfold Instr.makeSlice
            have hu := elOf_spec he
            have hneg : ¬ ((jn : Int) < 0) := by omega
            simp only [Sem.run_bind, run_underlying hu, Result.andThen_ok, asInt, asIntOf, Sem.run_pure, typeInfo, run_program, hi, hw]
            have hcond0 : (decide ((jn : Int) < 0) || decide ((ti.bytes : Int) * (jn : Int) > 2 ^ 48) || decide ((jn : Int) < 0) || decide ((jn : Int) > (jn : Int))) = false := by
              simp [hneg, hbytes]
              omega
            rw [hcond0]
            simp only [Bool.false_eq_true, if_false, Sem.run_bind, run_askRoom, Result.andThen_ok, run_szOf (show szOf E.P e0 = some ti.size by simp [szOf, hi]), Int.toNat_natCast]
            by_cases h0 : jn * ti.size = 0
            · rw [if_pos h0]
              have hr0 : Array.range (jn * ti.size) = #[] := by rw [h0]; rfl
              simp only [Sem.run_bind, Sem.run_pure, Result.andThen_ok, newRow, run_newObj, hr0, Array.map_empty]
              rfl
            · rw [if_neg h0]
              simp only [Sem.run_bind, Sem.run_pure, Result.andThen_ok, hzv, newRow, run_newObj]
              rfl
          have hbl : ∀ (i : Nat) (e : AV), (List.replicate jn (AV.ofV z))[i]? = some e → i < jn ∧ e = AV.ofV z := by
            intro i e he
            rw [List.getElem?_replicate] at he
            split at he
            · exact ⟨by assumption, (Option.some.inj he).symm⟩
            · cases he
          have hnob : ∀ k, noB.noL (1000 + tt) (List.replicate k (AV.ofV z)) = true := by
            intro k
            induction k with
            | zero => rfl
            | succ k ih => simp [List.replicate_succ, noB.noL, h8, ih]
          obtain ⟨x', hst⟩ := h.newBox (hd tt rfl) (l := List.replicate jn (AV.ofV z)) (sz := ti.size) (vals := (Array.range (jn * ti.size)).map (z.cells[· % z.cells.size]!)) (ty := e0) (v := .slice (some ⟨w.heap.size, 0, none⟩) jn jn) (av := .bs (1000 + tt) ti.size jn) h7 (hnob jn) hcond.2 (by simp) (fun i e he => by
            obtain ⟨hi2, rfl⟩ := hbl i e he
            refine ⟨h5, fun j c hj => ?_⟩
            have hjlt : j < ti.size := by rw [← h5]; exact (List.getElem?_eq_some_iff.1 hj).1
            have hjz : j < z.cells.size := by rw [z1, h5]; exact hjlt
            have hok : okC c = true := List.all_eq_true.1 h6 c (List.mem_of_getElem? hj)
            have hr := z2 j z.cells[j] c (Array.getElem?_eq_getElem hjz) hj
            refine ⟨hok, z.cells[j], ?_, rel_one hr hok, hr⟩
            have hlt : i * ti.size + j < jn * ti.size := by
              have : (i + 1) * ti.size ≤ jn * ti.size := Nat.mul_le_mul_right _ hi2
              rw [Nat.add_mul] at this
              omega
            have hmod : (i * ti.size + j) % z.cells.size = j := by
              rw [hcond.1, Nat.mul_comm, Nat.mul_add_mod, Nat.mod_eq_of_lt hjlt]
            rw [Array.getElem?_map, Array.getElem?_range, if_pos hlt]
            simp [hmod, hjz]) (fun x' e1 e2 => by have := Rel.bs (x := x') (base := w0.heap.size) (1000 + tt) ti.size jn jn (by rw [e2]) (Nat.le_refl _); simpa [e1, e2] using this)
          exact wpv (v_run hrun) ⟨x', _, hq, hst⟩
        · cases e
      · cases hc
    · cases hc
  case call c =>
    simp only [cOp] at hc
    split at hc
    · -- len
      rename_i hcal
      split at hc
      · rename_i y hargs
        obtain ⟨t, ht, e⟩ := Option.bind_eq_some_iff.1 hc
        obtain ⟨y', hy, e⟩ := Option.bind_eq_some_iff.1 e
        have ha : c.args = #[y] := by cases hh : c.args; rw [hh] at hargs; simp at hargs; rw [hargs]
        have exec : ∀ {v : Value} {ty : Nat}, c.argTypes = #[ty] → (Builtin.len_ #[ty] type #[a.eval y]).run E.P w = .ok v w → (execOp a.eval { dst := dst, op := Op.call c, type := type, pos := pos, after := after, guard := guard }).run E.P w = .ok (.value v) w := by
          intro v ty hty hr
          rw [← hty] at hr
          simp [execOp, resolve, hcal, ha, invoke, builtin, hr]
        have lenrun : ∀ {v : Value}, (∀ args : Array Nat, args[0]? = some t → (Builtin.len_ args type #[a.eval y]).run E.P w = .ok v w) → (execOp a.eval { dst := dst, op := Op.call c, type := type, pos := pos, after := after, guard := guard }).run E.P w = .ok (.value v) w := by
          intro v hr
          have := hr c.argTypes ht
          simp [execOp, resolve, hcal, ha, invoke, builtin, this]
        split at e
        · rename_i hs
          obtain rfl := Option.some.inj e
          obtain ⟨n, h1, hq⟩ := hv
          have r := relv h hy
          generalize hav : s.val y' = av at r h1
          have hb : ∃ b : ByteArray, a.eval y = .string b ∧ (b.size : Int) = n := by
            cases av with
            | lit v =>
              cases v with
              | string b => exact ⟨b, r.lit_inv, Option.some.inj h1⟩
              | _ => cases h1
            | _ => cases h1
          obtain ⟨b, e1, rfl⟩ := hb
          refine done (v := .int .i64 b.size) (lenrun fun args hargs0 => ?_) (.lit _ rfl) hq
          rw [e1]
          simp [Builtin.len_, hargs0, run_underlying (strT_spec hs), goInt]
        · split at e
          · rename_i hs
            obtain rfl := Option.some.inj e
            obtain ⟨e0, he⟩ := Option.isSome_iff_exists.1 hs
            obtain ⟨n, h1, hq⟩ := hv
            have r := relv h hy
            generalize hav : s.val y' = av at r h1
            obtain ⟨v, hav2⟩ : ∃ v, a.eval y = v := ⟨_, rfl⟩
            rw [hav2] at r
            have hl : ∃ A n' c', v = .slice A n' c' ∧ (n' : Int) = n := by
              cases r with
              | sl _ _ _ _ d1 _ _ =>
                cases d1 with
                | sl A n' cap _ _ _ b o f g1 g2 _ _ _ _ => exact ⟨A, n', cap, rfl, by rw [g1]; exact Option.some.inj h1⟩
              | bs => exact ⟨_, _, _, rfl, Option.some.inj h1⟩
              | hs _ _ _ hh =>
                cases hh with
                | hs A n' cap _ _ b o f g1 _ _ _ _ _ _ => exact ⟨A, n', cap, rfl, by rw [g1]; exact Option.some.inj h1⟩
              | _ => cases h1
            obtain ⟨A, n', c', rfl, rfl⟩ := hl
            refine done (lenrun fun args hargs0 => ?_) (.lit _ rfl) hq
            rw [hav2]
            simp [Builtin.len_, hargs0, run_underlying (elOf_spec he), goInt]
          · cases e
      · cases hc
    · -- append
      rename_i hcal
      split at hc
      · rename_i y z hargs
        obtain ⟨t, ht, e⟩ := Option.bind_eq_some_iff.1 hc
        obtain ⟨t2, ht2, e⟩ := Option.bind_eq_some_iff.1 e
        obtain ⟨e0, he, e⟩ := Option.bind_eq_some_iff.1 e
        obtain ⟨ti, hi, e⟩ := Option.bind_eq_some_iff.1 e
        obtain ⟨zv, hz, e⟩ := Option.bind_eq_some_iff.1 e
        obtain ⟨y', hy, e⟩ := Option.bind_eq_some_iff.1 e
        obtain ⟨z', hzz, e⟩ := Option.bind_eq_some_iff.1 e
        split at e
        · rename_i hcond
          obtain rfl := Option.some.inj e
          have ha : c.args = #[y, z] := by cases hh : c.args; rw [hh] at hargs; simp at hargs; rw [hargs]
          obtain ⟨e2, he2⟩ := Option.isSome_iff_exists.1 hcond.2.2.2
          obtain ⟨m, zs, xs, h1, m2, z2, ys, h2, h3, h4, h5, hv⟩ := hv
          have ry := relv h hy
          have rz := relv h hzz
          rw [h1] at ry
          rw [h2] at rz
          have exec : ∀ {v : Value} {w' : World}, (Builtin.append_ #[t, t2] type #[a.eval y, a.eval z]).run E.P w = .ok v w' → (execOp a.eval { dst := dst, op := Op.call c, type := type, pos := pos, after := after, guard := guard }).run E.P w = .ok (.value v) w' := by
            intro v w' hr
            have : (Builtin.append_ c.argTypes type #[a.eval y, a.eval z]).run E.P w = .ok v w' := by
              rw [← hr]
              unfold Builtin.append_
              simp [ht, ht2]
            simp [execOp, resolve, hcal, ha, invoke, builtin, this]
          obtain ⟨vy, hvy⟩ : ∃ v, a.eval y = v := ⟨_, rfl⟩
          obtain ⟨vz, hvz⟩ : ∃ v, a.eval z = v := ⟨_, rfl⟩
          rw [hvy] at ry exec
          rw [hvz] at rz exec
          cases ry with
          | sl _ _ _ _ d1 d2 d3 =>
            cases rz with
            | sl _ _ _ _ g1 g2 g3 =>
              cases hm : m.ap with
              | no => rw [hm] at hv; exact hv.elim
              | nl =>
                rw [hm] at hv d3
                obtain ⟨tt, rfl, h6, hq⟩ := hv
                obtain ⟨v', w', x', r1, r2, r3⟩ := h.app (adapts_new (c := 64 * tt) h (by omega) h6) (ty := type) (elOf_spec he) (elOf_spec he2) hi hz hcond.1 hcond.2.1 hcond.2.2.1 d1 d2 h3 g1 g2 h4 (.inl d3) h5
                refine wpv (exec r1) ⟨x', _, hq, ?_⟩
                have := r2.put hd r3
                simp only [AS.putO, put_put] at this
                exact this
              | ow t => rw [hm] at hv; exact hv.elim
              | cl c0 =>
                rw [hm] at hv d3
                obtain ⟨rfl, hq⟩ := hv
                obtain ⟨v', w', x', r1, r2, r3⟩ := h.app (adapts_dem h c0) (ty := type) (elOf_spec he) (elOf_spec he2) hi hz hcond.1 hcond.2.1 hcond.2.2.1 d1 d2 h3 g1 g2 h4 d3 h5
                exact wpv (exec r1) ⟨x', _, hq, r2.put hd r3⟩
        · cases e
      · cases hc
    · -- a function
      rename_i f hcal
      split at hc
      · rename_i hf
        obtain ⟨l, hl, e⟩ := Option.bind_eq_some_iff.1 hc
        obtain rfl := Option.some.inj e
        obtain ⟨l1, l2⟩ := ods_rel h.env hl
        have hrun : (execOp a.eval { dst := dst, op := Op.call c, type := type, pos := pos, after := after, guard := guard }).run E.P w = .ok (.enter f (c.args.map a.eval)) w := by
          have := run_callFunc hf (c.args.map a.eval) w
          simp [execOp, resolve, hcal, Act.eval, Deferred.ofValue, invoke]
          exact this
        unfold Oper.wp
        rw [hrun]
        refine (call_run2 h hK hd (by simpa using l1) (fun i v cc hv1 hc1 => l2 i v cc (by rw [Array.getElem?_map] at hv1; simpa using hv1) hc1) hv).mono ?_
        rintro e w' he
        cases e with
        | returned v => exact he
        | panicked _ => exact he.elim
        | outgrown => exact he.elim
      · cases hc
    · -- a function's value
      rename_i y _ hcal
      obtain ⟨y', hy, e⟩ := Option.bind_eq_some_iff.1 hc
      obtain ⟨l, hl, e⟩ := Option.bind_eq_some_iff.1 e
      obtain rfl := Option.some.inj e
      obtain ⟨f, cs, h1, h2, hv⟩ := hv
      obtain ⟨l1, l2⟩ := ods_rel h.env hl
      have r := relv h hy
      rw [h1] at r
      obtain ⟨v, ha⟩ : ∃ v, a.eval y = v := ⟨_, rfl⟩
      rw [ha] at r
      cases r with
      | fn _ vs _ hs hr =>
        have hrun : (execOp a.eval { dst := dst, op := Op.call c, type := type, pos := pos, after := after, guard := guard }).run E.P w = .ok (.enter f (c.args.map a.eval ++ vs)) w := by
          have := run_callFunc h2 (c.args.map a.eval ++ vs) w
          simp [execOp, resolve, hcal, ha, Deferred.ofValue, invoke]
          exact this
        unfold Oper.wp
        rw [hrun]
        have hlen : (c.args.map a.eval).size = (s.vals l).length := by simpa using l1
        refine (call_run2 h hK hd (by rw [Array.size_append, hlen, hs, List.length_append]) (fun i v cc hv1 hc1 => ?_) hv).mono ?_
        · by_cases hi : i < (s.vals l).length
          · rw [Array.getElem?_append_left (by omega)] at hv1
            rw [List.getElem?_append_left hi] at hc1
            exact l2 i v cc (by rw [Array.getElem?_map] at hv1; simpa using hv1) hc1
          · rw [Array.getElem?_append_right (by omega), hlen] at hv1
            rw [List.getElem?_append_right (by omega)] at hc1
            exact hr _ v cc hv1 hc1
        · rintro e w' he
          cases e with
          | returned v => exact he
          | panicked _ => exact he.elim
          | outgrown => exact he.elim
    · cases hc
  all_goals cases hc
end
end Go.Proofs.Ytpopccnnjpdmlaa.Vm
