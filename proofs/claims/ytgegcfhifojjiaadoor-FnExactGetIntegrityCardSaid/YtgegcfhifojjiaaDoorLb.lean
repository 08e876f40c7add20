/- Contracts of the library's functions, as the abstract machine has them. -/
import Derived.Test.YtgegcfhifojjiaaDoorShelf
import Derived.Test.YtgegcfhifojjiaaDoorVc
namespace Go.Proofs.YtgegcfhifojjiaaDoor.Vm
open Go Go.RowKit
set_option linter.unusedVariables false
set_option linter.unusedSimpArgs false
/-- what the library's functions ask of the memory: tables and errors that stand as they were laid -/
structure KZ (w : World) : Prop where
  pow : Lib.TabIs Go.Proofs.Tryd.prog w "internal/strconv.uint64pow10" .u64 Lib.pow10Tab
  maxl : ∃ m, w.cell? ⟨0, 0, none⟩ = some (.int .i64 m)
  esyn : ∃ t p, w.cell? ⟨1, 0, none⟩ = some (.iface t p)
  erng : ∃ t p, w.cell? ⟨2, 0, none⟩ = some (.iface t p)
/-- the library's one setting, wherever it stands -/
def KM (w : World) : Prop := ∃ m, w.cell? ⟨0, 0, none⟩ = some (.int .i64 m)
theorem KZ.km {w : World} (h : KZ w) : KM w := h.maxl
theorem gPow : Go.Proofs.Tryd.prog.globalNamed "internal/strconv.uint64pow10" = some 5 := by kernel_rfl
theorem KZ.size {w : World} (h : KZ w) : 5 + 1 ≤ w.heap.size := by
  have h1 := h.pow
  unfold Lib.TabIs World.var? at h1
  rw [gPow] at h1
  simp only [Option.bind_some] at h1
  rcases Nat.lt_or_ge 5 w.heap.size with h2 | h2
  · exact h2
  · rw [Array.getElem?_eq_none h2] at h1
    cases h1
theorem KZ.keep {w w' : World} (hk : ∀ k, k < 5 + 1 → w'.heap[k]? = w.heap[k]?) (h : KZ w) : KZ w' := by
  refine ⟨?_, ?_, ?_, ?_⟩
  · have h1 := h.pow
    unfold Lib.TabIs World.var? at h1 ⊢
    rw [gPow] at h1 ⊢
    simp only [Option.bind_some] at h1 ⊢
    rw [hk _ (by decide)]
    exact h1
  · obtain ⟨m, hm⟩ := h.maxl
    exact ⟨m, (World.cell?_of_block (w := w) (hk _ (by decide))).trans hm⟩
  · obtain ⟨t, p, hm⟩ := h.esyn
    exact ⟨t, p, (World.cell?_of_block (w := w) (hk _ (by decide))).trans hm⟩
  · obtain ⟨t, p, hm⟩ := h.erng
    exact ⟨t, p, (World.cell?_of_block (w := w) (hk _ (by decide))).trans hm⟩
theorem KZ.below {w w' : World} (hb : Below w.heap.size w w') (h : KZ w) : KZ w' := h.keep fun k hk => hb.block k (by have := h.size; omega)
theorem args_lit {x : X} {base : Nat} {args : List Value} {vs : Array Value} (hl : vs.size = args.length) (hr : ∀ (i : Nat) (v : Value) (c : AV), vs[i]? = some v → (args.map AV.lit)[i]? = some c → Rel x base v c) : vs = args.toArray := by
  apply Array.ext
  · simpa using hl
  · intro i h1 h2
    have h3 : i < args.length := by simpa using h2
    have := hr i vs[i] (.lit args[i]) (Array.getElem?_eq_getElem h1) (by rw [List.getElem?_map, List.getElem?_eq_getElem h3]; rfl)
    simpa using this.lit_inv
/-- A contract of values alone. -/
theorem Fx_res {E : Env} {f : Nat} {args : List Value} {r : Value} {a : AV} (hok : resOk a = true) (hr : ∀ x base, Rel x base r a) (h : ∀ w, E.K w → Calls E.P f args.toArray w fun e w' => e = .returned r ∧ Below w.heap.size w w') : Fx E f [] (args.map .lit) [] a := by
  refine ⟨rfl, hok, fun x w vs hK htl hng hj hvs hargs hag hbx hinj => ?_⟩
  obtain rfl := args_lit (by simpa using hvs) hargs
  refine (h w hK).mono ?_
  rintro e w' ⟨rfl, hb⟩
  refine ⟨r, x, rfl, hr _ _, fun _ _ _ h => h, fun _ _ _ h _ => h, fun b o v hv => ?_, ⟨hb.os, hb.tape, hb.output, hb.size, fun k hk _ => hb.block k hk⟩, fun n hn => ⟨rfl, rfl⟩, fun n l hl => (by simp at hl), ⟨fun c b e t ht => (by rw [htl] at ht; cases ht), fun c c' b e t e' t' ht => (by rw [htl] at ht; cases ht)⟩, fun b o ho => ?_, fun b o v c ty fz hb' hv hh => ?_⟩
  · obtain ⟨c, ty, fz, e1, e2⟩ := hag b o v hv
    exact ⟨c, ty, fz, (hb.block b (agree_lt hag hv)).trans e1, e2⟩
  · obtain ⟨vs', ty, q1, q2⟩ := hj.1 b o ho
    exact ⟨vs', ty, (hb.block b (Array.getElem?_eq_some_iff.1 q1).1).trans q1, q2⟩
  · have := agree_lt hag hv; omega
theorem Fx_lit {E : Env} {f : Nat} {args : List Value} {r : Value} (hr : r.oneCell' = true) (h : ∀ w, E.K w → Calls E.P f args.toArray w fun e w' => e = .returned r ∧ Below w.heap.size w w') : Fx E f [] (args.map .lit) [] (.lit r) := Fx_res rfl (fun _ _ => .lit _ hr) h
/-- A contract that makes a row of texts. -/
theorem vcall_strs {E : Env} {s : AS} {t f : Nat} {args : List Value} {xs : List ByteArray} {ty : Nat} {Q : AS → Prop} (h : ∀ w, E.K w → Calls E.P f args.toArray w fun e w' => e = .returned (.slice (some ⟨w.heap.size, 0, none⟩) xs.length xs.length) ∧ w' = w.alloc (.cells (xs.map Value.string).toArray ty)) (hfree : (s.putO (some t) .un).noB (1000 + t) = true) {l : Lk Q} (h4 : Q ((s.setB (1000 + t) (xs.map fun x => .lit (.string x))).put t (.bs (1000 + t) 1 xs.length))) : Xc E false s (some t) f (args.map .lit) Q l := by
  refine .inr ⟨rfl, fun x0 w0 pb nt x a w hs hK hd vs hl hr => ?_⟩
  obtain rfl := args_lit (by simpa using hl) hr
  refine (h w (hs.K hK)).mono ?_
  rintro e w' ⟨rfl, rfl⟩
  obtain ⟨x', hx'⟩ := hs.newBox (t := t) (hd t rfl) (l := xs.map fun x => .lit (.string x)) (sz := 1) (vals := (xs.map Value.string).toArray) (ty := ty) hfree (by
    have : ∀ l : List ByteArray, noB.noL (1000 + t) (l.map fun x => AV.lit (.string x)) = true := by
      intro l; induction l with
      | nil => rfl
      | cons y l ih => simp [noB.noL, noB, ih]
    exact this xs) (by omega) (by simp) (fun i e he => by
    rw [List.getElem?_map] at he
    obtain ⟨y, hy, rfl⟩ := Option.map_eq_some_iff.1 he
    refine ⟨rfl, fun j c hc => ?_⟩
    cases j with
    | succ j => simp [AV.cells] at hc
    | zero =>
      obtain rfl : AV.lit (.string y) = c := Option.some.inj hc
      exact ⟨rfl, .string y, by simp [hy], rfl, .lit _ rfl⟩) (v := .slice (some ⟨w.heap.size, 0, none⟩) xs.length xs.length) (av := .bs (1000 + t) 1 xs.length) (fun x' h1 h2 => by
    have := Rel.bs (x := x') (base := w0.heap.size) (1000 + t) 1 xs.length xs.length (by rw [h2]) (Nat.le_refl _)
    rw [h1, h2] at this
    exact this)
  refine ⟨_, x', _, rfl, h4, ⟨fun u hu h => ?_, fun u hu h => ?_⟩, hx'⟩
  · rw [get_put, if_neg (fun e => hu (by rw [e])), get_setB]; exact h
  · rw [bxs_put, look_setB, if_neg (fun e => hu (by have : u = t := by omega
                                                    rw [this]))]
    exact h
/-- A contract that takes a row of texts. -/
theorem Fx_row {E : Env} {f : Nat} {xs : List ByteArray} {args : List Value} {r : Value} (hr : r.oneCell' = true) (h0 : ∀ (A : Option Addr) (cap : Nat) (w : World), E.K w → xs = [] → Calls E.P f (.slice A 0 cap :: args).toArray w fun e w' => e = .returned r ∧ Below w.heap.size w w')
    (h : ∀ (b o cap : Nat) (w : World), E.K w → b < w.heap.size → xs.length ≤ cap → (∀ (j : Nat) y, xs[j]? = some y → w.cell? ⟨b, o + j, none⟩ = some (.string y)) → Calls E.P f (.slice (some ⟨b, o, none⟩) xs.length cap :: args).toArray w fun e w' => e = .returned r ∧ Below w.heap.size w w') : Fx E f [] (.sl ro 1 (xs.map fun x => .lit (.string x)) :: args.map .lit) [] (.lit r) := by
  refine ⟨rfl, rfl, fun x w vs hK htl hng hj hvs hargs hag hbx hinj => ?_⟩
  have hlt : 0 < vs.size := by rw [hvs]; simp
  have h1 := hargs 0 vs[0] _ (Array.getElem?_eq_getElem hlt) rfl
  have hvs' : vs.toList.drop 1 = args := by
    apply List.ext_getElem?
    intro i
    rw [List.getElem?_drop, Array.getElem?_toList]
    cases ha : args[i]? with
    | none =>
      have := List.getElem?_eq_none_iff.1 ha
      exact Array.getElem?_eq_none (by rw [hvs]; simp; omega)
    | some a =>
      have hi := (List.getElem?_eq_some_iff.1 ha).1
      have hlt' : 1 + i < vs.size := by rw [hvs]; simp; omega
      have := hargs (1 + i) vs[1 + i] (.lit a) (Array.getElem?_eq_getElem hlt') (by rw [show 1 + i = i + 1 by omega]; simp [ha])
      rw [Array.getElem?_eq_getElem hlt', this.lit_inv]
  have hvs2 : vs = (vs[0] :: args).toArray := by
    apply Array.toList_inj.1
    rw [← hvs']
    apply List.ext_getElem?
    intro i
    cases i with
    | zero => simp [Array.getElem?_toList, Array.getElem?_eq_getElem hlt]
    | succ i => simp [Nat.add_comm]
  have post : ∀ (e : Ending) (w' : World), (e = Ending.returned r ∧ Below w.heap.size w w') → ∃ v x', e = .returned v ∧ Rel x' w.heap.size v (.lit r) ∧ x.G.le x'.G ∧ (∀ b o v, x'.G b o = some v → b < w.heap.size → x.G b o = some v) ∧ Agree x'.G w' ∧
      Fr w.heap.size (SBx ([] : List (List AV)).length x) w w' ∧ (∀ n, n < ([] : List (List AV)).length → x'.bx n = x.bx n ∧ x'.bz n = x.bz n) ∧
      (∀ (n : Nat) (l : List AV), ([] : List (List AV))[n]? = some l → BoxAt x' w.heap.size w' n l ∧ ∀ o, x'.G (x.bx n) o = none) ∧ Tails x' w.heap.size w' ∧ JOk x.J w' ∧ New00 x'.G w.heap.size w' := by
    rintro e w' ⟨rfl, hb⟩
    refine ⟨r, x, rfl, .lit _ hr, fun _ _ _ h => h, fun _ _ _ h _ => h, fun b o v hv => ?_, ⟨hb.os, hb.tape, hb.output, hb.size, fun k hk _ => hb.block k hk⟩, fun n hn => ⟨rfl, rfl⟩, fun n l hl => (by simp at hl), ⟨fun c b e t ht => (by rw [htl] at ht; cases ht), fun c c' b e t e' t' ht => (by rw [htl] at ht; cases ht)⟩, fun b o ho => ?_, fun b o v c ty fz hb' hv hh => ?_⟩
    · obtain ⟨c, ty, fz, e1, e2⟩ := hag b o v hv
      exact ⟨c, ty, fz, (hb.block b (agree_lt hag hv)).trans e1, e2⟩
    · obtain ⟨vs', ty, q1, q2⟩ := hj.1 b o ho
      exact ⟨vs', ty, (hb.block b (Array.getElem?_eq_some_iff.1 q1).1).trans q1, q2⟩
    · have := agree_lt hag hv; omega
  rw [hvs2]
  generalize vs[0] = v0 at h1
  cases h1 with
  | sl _ _ _ _ hrep _ _ =>
    cases hrep with
    | sl A n cap _ _ _ b o g e1 e2 e3 e4 e5 e6 =>
      by_cases hx : xs = []
      · subst hx
        obtain rfl : n = 0 := by simpa using e1
        exact (h0 A cap w hK rfl).mono post
      · obtain rfl := e3 (by simpa using hx)
        obtain rfl : n = xs.length := by simpa using e1
        have hcell : ∀ (j : Nat) y, xs[j]? = some y → x.G b (o + j) = some (.string y) := by
          intro j y hy
          have a1 := e5 j (.lit (.string y)) 0 (.lit (.string y)) (by simp [hy]) rfl
          have a2 := e6 j (.lit (.string y)) 0 (.lit (.string y)) (by simp [hy]) rfl
          have a3 : g j 0 = .string y := by
            generalize g j 0 = q at a2
            cases a2; rfl
          rw [a3] at a1
          simpa using a1.1
        obtain ⟨y, hy⟩ : ∃ y, xs[0]? = some y := by cases xs with | nil => exact absurd rfl hx | cons a l => exact ⟨a, rfl⟩
        refine (h b o cap w hK (agree_lt hag (hcell 0 y hy)) e2 fun j y hy => ?_).mono post
        obtain ⟨c, ty, fz, q1, q2⟩ := hag b (o + j) _ (hcell j y hy)
        simp only [World.cell?, q1]
        exact q2
/-- A contract that takes a row of texts that is written elsewhere. -/
theorem Fx_rowb {E : Env} {f : Nat} {xs : List ByteArray} {args : List Value} {r : Value} (hr : r.oneCell' = true) (h0 : ∀ (A : Option Addr) (cap : Nat) (w : World), E.K w → xs = [] → Calls E.P f (.slice A 0 cap :: args).toArray w fun e w' => e = .returned r ∧ Below w.heap.size w w')
    (h : ∀ (b o cap : Nat) (w : World), E.K w → b < w.heap.size → xs.length ≤ cap → (∀ (j : Nat) y, xs[j]? = some y → w.cell? ⟨b, o + j, none⟩ = some (.string y)) → Calls E.P f (.slice (some ⟨b, o, none⟩) xs.length cap :: args).toArray w fun e w' => e = .returned r ∧ Below w.heap.size w w') : Fx E f [xs.map fun x => .lit (.string x)] (.bs 0 1 xs.length :: args.map .lit) [xs.map fun x => .lit (.string x)] (.lit r) := by
  refine ⟨rfl, rfl, fun x w vs hK htl hng hj hvs hargs hag hbx hinj => ?_⟩
  have hlt : 0 < vs.size := by rw [hvs]; simp
  have h1 := hargs 0 vs[0] _ (Array.getElem?_eq_getElem hlt) rfl
  have hvs' : vs.toList.drop 1 = args := by
    apply List.ext_getElem?
    intro i
    rw [List.getElem?_drop, Array.getElem?_toList]
    cases ha : args[i]? with
    | none =>
      have := List.getElem?_eq_none_iff.1 ha
      exact Array.getElem?_eq_none (by rw [hvs]; simp; omega)
    | some a =>
      have hi := (List.getElem?_eq_some_iff.1 ha).1
      have hlt' : 1 + i < vs.size := by rw [hvs]; simp; omega
      have := hargs (1 + i) vs[1 + i] (.lit a) (Array.getElem?_eq_getElem hlt') (by rw [show 1 + i = i + 1 by omega]; simp [ha])
      rw [Array.getElem?_eq_getElem hlt', this.lit_inv]
  have hvs2 : vs = (vs[0] :: args).toArray := by
    apply Array.toList_inj.1
    rw [← hvs']
    apply List.ext_getElem?
    intro i
    cases i with
    | zero => simp [Array.getElem?_toList, Array.getElem?_eq_getElem hlt]
    | succ i => simp [Nat.add_comm]
  obtain ⟨⟨vals, ty, b1, b2, b3, b4⟩, hG⟩ := hbx 0 _ rfl
  have post : ∀ (e : Ending) (w' : World), (e = Ending.returned r ∧ Below w.heap.size w w') → ∃ v x', e = .returned v ∧ Rel x' w.heap.size v (.lit r) ∧ x.G.le x'.G ∧ (∀ b o v, x'.G b o = some v → b < w.heap.size → x.G b o = some v) ∧ Agree x'.G w' ∧
      Fr w.heap.size (SBx [xs.map fun x => AV.lit (.string x)].length x) w w' ∧ (∀ n, n < [xs.map fun x => AV.lit (.string x)].length → x'.bx n = x.bx n ∧ x'.bz n = x.bz n) ∧
      (∀ (n : Nat) (l : List AV), [xs.map fun x => AV.lit (.string x)][n]? = some l → BoxAt x' w.heap.size w' n l ∧ ∀ o, x'.G (x.bx n) o = none) ∧ Tails x' w.heap.size w' ∧ JOk x.J w' ∧ New00 x'.G w.heap.size w' := by
    rintro e w' ⟨rfl, hb⟩
    refine ⟨r, x, rfl, .lit _ hr, fun _ _ _ h => h, fun _ _ _ h _ => h, fun b o v hv => ?_, ⟨hb.os, hb.tape, hb.output, hb.size, fun k hk _ => hb.block k hk⟩, fun n hn => ⟨rfl, rfl⟩, fun n l hl => ?_, ⟨fun c b e t ht => (by rw [htl] at ht; cases ht), fun c c' b e t e' t' ht => (by rw [htl] at ht; cases ht)⟩, fun b o ho => ?_, fun b o v c ty fz hb' hv hh => ?_⟩
    · obtain ⟨c, ty, fz, e1, e2⟩ := hag b o v hv
      exact ⟨c, ty, fz, (hb.block b (agree_lt hag hv)).trans e1, e2⟩
    · obtain ⟨⟨vals', ty', c1, c2⟩, hG'⟩ := hbx n l hl
      exact ⟨⟨vals', ty', (hb.block _ (Array.getElem?_eq_some_iff.1 c1).1).trans c1, c2⟩, hG'⟩
    · obtain ⟨vs', ty, q1, q2⟩ := hj.1 b o ho
      exact ⟨vs', ty, (hb.block b (Array.getElem?_eq_some_iff.1 q1).1).trans q1, q2⟩
    · have := agree_lt hag hv; omega
  rw [hvs2]
  generalize vs[0] = v0 at h1
  cases h1 with
  | bs _ _ _ cap hz hcap =>
    by_cases hx : xs = []
    · subst hx
      exact (h0 _ cap w hK rfl).mono post
    · refine (h (x.bx 0) (x.bz 0).2 cap w hK (Array.getElem?_eq_some_iff.1 b1).1 (by simpa using hcap) fun j y hy => ?_).mono post
      obtain ⟨_, q⟩ := b4 j (.lit (.string y)) (by simp [hy])
      obtain ⟨_, u, q1, _, q2⟩ := q 0 (.lit (.string y)) rfl
      have := q2.lit_inv
      subst this
      rw [hz] at q1
      simp only [World.cell?, b1]
      simpa using q1
theorem Fin_ret2 {rs : List VR} {r r1 r2 : AV} {ks : List Nat} {s : AS} (h : resVs s rs = some [r1, r2]) (h2 : r = reC ks (.tup [r1, r2])) : Fin rs r ks .ret s := ⟨.inr rfl, s, .refl _, _, h, h2⟩
theorem Fin_ret3 {rs : List VR} {r r1 r2 r3 : AV} {ks : List Nat} {s : AS} (h : resVs s rs = some [r1, r2, r3]) (h2 : r = reC ks (.tup [r1, r2, r3])) : Fin rs r ks .ret s := ⟨.inr rfl, s, .refl _, _, h, h2⟩
theorem Fin_wk2' {rs : List VR} {r r1 r2 : AV} {ks : List Nat} {s s1 : AS} (hw : Wk s1 s) (h : resVs s1 rs = some [r1, r2]) (h2 : r = reC ks (.tup [r1, r2])) : Fin rs r ks .ret s := ⟨.inr rfl, s1, hw, _, h, h2⟩
theorem wkV_no (ap : Ap) (b : Bool) (sz : Nat) (xs : List AV) : wkV (.sl ⟨.no, b⟩ sz xs) (.sl ⟨ap, b⟩ sz xs) := .inr (.inr ⟨_, _, _, _, _, rfl, rfl, id, .inl ⟨rfl, .inl rfl⟩⟩)
theorem Xa_b2s {E : Env} {s : AS} {d : Option Nat} {x : Od} {Q : AS → Prop} {lk : Lk Q} {m : Mk} {l : List UInt8} (h : s.val x = .sl m 1 (l.map fun b : UInt8 => .lit (.int .u8 b.toNat))) (hQ : Q (s.putO d (.lit (.string ⟨l.toArray⟩)))) : Xa E s d (.b2s x) Q lk := ⟨m, 1, _, l, h, .inl rfl, rfl, hQ⟩
/-- cuts of texts and rows -/
theorem wh_ll {s : AS} {n : Nat} {lo hi : Od} {k k' : IntKind} {l h : Int} {K : Nat × Nat → Prop} {lk : Lk K} (h1 : s.val lo = .lit (.int k l)) (h2 : s.val hi = .lit (.int k' h)) (c1 : 0 ≤ l) (c2 : l ≤ h) (c3 : h ≤ n) (hK : K (l.toNat, h.toNat)) : wh (cutB s n (some lo) (some hi)) K lk := by
  have e : cutB s n (some lo) (some hi) = some (l.toNat, h.toNat) := by
    unfold cutB
    simp only [h1, h2]
    rw [if_pos ⟨by omega, c3⟩]
    simp only
    rw [if_pos ⟨c1, by omega⟩]
  exact wh_of e hK
theorem wh_l {s : AS} {n : Nat} {lo : Od} {k : IntKind} {l : Int} {K : Nat × Nat → Prop} {lk : Lk K} (h1 : s.val lo = .lit (.int k l)) (c1 : 0 ≤ l) (c2 : l ≤ n) (hK : K (l.toNat, n)) : wh (cutB s n (some lo) none) K lk := by
  have e : cutB s n (some lo) none = some (l.toNat, n) := by
    unfold cutB
    simp only [h1]
    rw [if_pos ⟨c1, c2⟩]
  exact wh_of e hK
theorem wh_h {s : AS} {n : Nat} {hi : Od} {k : IntKind} {h : Int} {K : Nat × Nat → Prop} {lk : Lk K} (h1 : s.val hi = .lit (.int k h)) (c1 : 0 ≤ h) (c2 : h ≤ n) (hK : K (0, h.toNat)) : wh (cutB s n none (some hi)) K lk := by
  have e : cutB s n none (some hi) = some (0, h.toNat) := by
    unfold cutB
    simp only [h1]
    rw [if_pos ⟨c1, c2⟩]
  exact wh_of e hK
end Go.Proofs.YtgegcfhifojjiaaDoor.Vm
