/- An abstract machine over values: what an argument that can be read as data holds. -/
import Derived.Test.YtpopccnnjpdmlaaVmZ
import Derived.Deep.Slices
import Derived.ChangeSame
import Derived.SizedLaws
import Derived.ChangeSlices
import Derived.OpenShut
import Derived.Carry
namespace Go.Proofs.Ytpopccnnjpdmlaa.Vm
open Go Go.RowKit Go.ChangeShapes Go.WideShapes
set_option linter.unusedVariables false
set_option linter.unusedSimpArgs false
/-- All that the memory holds. -/
def hG (w : World) : Gh := fun b o => match w.heap[b]? with
  | some (.cells c _ _) => c[o]?
  | _ => none
theorem agree_hG (w : World) : Agree (hG w) w := by
  intro b o v h
  unfold hG at h
  split at h
  · rename_i c ty fz hb; exact ⟨c, ty, fz, hb, h⟩
  · cases h
theorem hG_cell {w : World} {a : Addr} {v : Value} (h : w.cell? a = some v) : a.spot = none ∧ hG w a.block a.off = some v := by
  unfold World.cell? at h
  unfold hG
  split at h
  · rename_i c ty fz hb
    rw [hb]
    split at h
    · cases h
    · rename_i hs
      refine ⟨?_, h⟩
      cases hh : a.spot with
      | none => rfl
      | some k => rw [hh] at hs; exact absurd rfl hs
  · cases h
/-- Cells that are as the abstract ones tell. -/
def Cells (w : World) (cs : List Value) (l : List AV) : Prop := cs.length = l.length ∧ ∀ (j : Nat) (c : AV), l[j]? = some c → ∃ v, cs[j]? = some v ∧ v.oneCell' = true ∧ RepD (hG w) v c
/-- Data of type t, read out of cells, are as 'av' tells of a good value. -/
structure OpA {α : Type} (B : Nat) (P : Program) (t : TypeId) (n : Nat) (av : α → AV) (G : α → Prop) : Prop where
  size : P.cellsOf t = n
  len : ∀ a, (av a).cells.length = n
  out : ∀ {H : Type} {enc : TypeId × Value → H} {w : World} {base : Nat} {spare : Nat → Bool} {held : Bool} {fuel : Nat} {cs : List Value} {x : DataW H × List MemPlace}, fuel ≤ B →
    DataW.trod enc P w base spare held fuel t cs = some x → ∃ a : α, Cells w cs (av a).cells ∧ G a
/-- The same of a struct's fields from the o-th cell on. -/
structure OpSeg {α : Type} (B : Nat) (P : Program) (fs : List Field) (o n : Nat) (g : α → List AV) (G : α → Prop) : Prop where
  len : ∀ a, (g a).length = n
  out : ∀ {H : Type} {enc : TypeId × Value → H} {w : World} {base : Nat} {spare : Nat → Bool} {held : Bool} {fuel : Nat} {cs : List Value}, fuel ≤ B →
    (∀ (i : Nat) (f : Field), fs[i]? = some f → ∃ y, DataW.trod enc P w base spare held fuel f.type ((cs.drop f.offset).take (P.cellsOf f.type)) = some y) → cs.length = o + n → ∃ a : α, Cells w (cs.drop o) (g a) ∧ G a
section
variable {B : Nat} {P : Program} {t e : TypeId} {α β : Type} {n : Nat} {av : α → AV} {G : α → Prop}
theorem addr_block (a : Addr) (k : Nat) : (a.add k).block = a.block := by unfold Addr.add; split <;> rfl
theorem addr_off (a : Addr) (k : Nat) : (a.add k).off = a.off + k := by unfold Addr.add; split <;> simp [*]
theorem cells_one {w : World} {v : Value} (h : v.oneCell' = true) : Cells w [v] [.lit v] := by
  refine ⟨rfl, fun j c hc => ?_⟩
  cases j with
  | zero =>
    obtain rfl : AV.lit v = c := by simpa using hc
    exact ⟨v, rfl, h, .lit v h⟩
  | succ j => simp at hc
theorem OpA.string (ht : P.underlying t = some .string) (hc : P.cellsOf t = 1) : OpA B P t 1 (fun s : ByteArray => .lit (.string s)) (fun s => s.size ≤ 9223372036854775807) where
  size := hc
  len := fun _ => rfl
  out := fun _ h => by
    obtain ⟨s, h1, _, h2⟩ := DataW.trod_string ht h
    exact ⟨s, by rw [h1]; exact cells_one rfl, by simpa [maxLen] using h2⟩
theorem OpA.bool (ht : P.underlying t = some .bool) (hc : P.cellsOf t = 1) : OpA B P t 1 (fun b : Bool => .lit (.bool b)) (fun _ => True) where
  size := hc
  len := fun _ => rfl
  out := fun _ h => by
    obtain ⟨b, h1, _⟩ := DataW.trod_bool ht h
    exact ⟨b, by rw [h1]; exact cells_one rfl, trivial⟩
theorem OpA.int {k : IntKind} (ht : P.underlying t = some (.int k)) (hc : P.cellsOf t = 1) : OpA B P t 1 (fun i : Int => .lit (.int k i)) (fun i => (Lit.int k i).wf = true) where
  size := hc
  len := fun _ => rfl
  out := fun _ h => by
    obtain ⟨i, h1, _, hw⟩ := DataW.trod_int ht h
    exact ⟨i, by rw [h1]; exact cells_one rfl, hw⟩
def GoodL {α : Type} (G : α → Prop) (xs : List α) : Prop := xs.length ≤ 9223372036854775807 ∧ ∀ x ∈ xs, G x
theorem cells_get {α : Type} {q : α → List Value → Prop} {len : Nat} (each : ∀ i, i < len → ∃ a cs, q a cs) : True := trivial
theorem OpA.slice (ht : P.underlying t = some (.slice e)) (hc : P.cellsOf t = 1) (he : OpA B P e n av G) (hn : 0 < n) : OpA B P t 1 (fun xs : List α => .sl ro n (xs.map av)) (GoodL G) where
  size := hc
  len := fun _ => rfl
  out := fun {H enc w base spare held fuel cs x} hB h => by
    rcases DataW.trod_slice ht h with ⟨h1, _⟩ | ⟨a, len, cap, elems, rest, m, hm0, rfl, _, hb, hl, hm, hlen, hel, _, _⟩
    · refine ⟨[], ?_, by simp [GoodL]⟩
      rw [h1]
      refine ⟨rfl, fun j c hc => ?_⟩
      cases j with
      | zero =>
        obtain rfl : AV.sl ro n [] = c := by simpa [AV.cells] using hc
        exact ⟨_, rfl, rfl, .sl none 0 0 _ n [] 0 0 (fun _ _ => default) rfl (Nat.le_refl _) (fun h => absurd rfl h) (by simp) (by simp) (by simp)⟩
      | succ j => simp [AV.cells] at hc
    · have each : ∀ i, i < len → ∃ q : α, G q ∧ ∃ cs', w.cells? base (a.add (i * P.cellsOf e)) (P.cellsOf e) = some cs' ∧ Cells w cs' (av q).cells := by
        intro i hi
        have h1 := hel i hi
        rw [List.getElem?_eq_getElem (by omega : i < elems.length)] at h1
        obtain ⟨cs', h2, h3⟩ := Option.bind_eq_some_iff.1 h1
        obtain ⟨q, hq, hg⟩ := he.out (by omega) h3
        exact ⟨q, hg, cs', h2, hq⟩
      have ⟨V, hV⟩ : ∃ xs : List α, xs.length = len ∧ ∀ i q, xs[i]? = some q → G q ∧ ∃ cs', w.cells? base (a.add (i * P.cellsOf e)) (P.cellsOf e) = some cs' ∧ Cells w cs' (av q).cells := by
        clear hlen hel
        have hall : ∀ k, k ≤ len → ∃ xs : List α, xs.length = k ∧ ∀ i q, xs[i]? = some q → G q ∧ ∃ cs', w.cells? base (a.add (i * P.cellsOf e)) (P.cellsOf e) = some cs' ∧ Cells w cs' (av q).cells := by
          intro k
          induction k with
          | zero => intro _; exact ⟨[], rfl, fun i q h => by simp at h⟩
          | succ k ih =>
            intro hk
            obtain ⟨xs, h1, h2⟩ := ih (by omega)
            obtain ⟨q, hq⟩ := each k (by omega)
            refine ⟨xs ++ [q], by simp [h1], fun i p hp => ?_⟩
            rcases Nat.lt_trichotomy i k with hi | hi | hi
            · rw [List.getElem?_append_left (by omega)] at hp; exact h2 i p hp
            · subst hi
              rw [List.getElem?_append_right (by omega), h1] at hp
              simp at hp; subst hp; exact hq
            · rw [List.getElem?_eq_none (by simp; omega)] at hp; cases hp
        exact hall len (Nat.le_refl _)
      obtain ⟨rfl, hV2⟩ := hV
      have h63 : V.length ≤ 9223372036854775807 := by
        have : cap ≤ 9223372036854775807 := by simpa [maxLen] using hm
        omega
      have hcell : ∀ (i : Nat) (q : α) (j : Nat) (c : AV), V[i]? = some q → (av q).cells[j]? = some c → ∃ v, (i * n + j = 0 → a.spot = none) ∧ hG w a.block (a.off + i * n + j) = some v ∧ v.oneCell' = true ∧ RepD (hG w) v c := by
        intro i q j c hi hj
        obtain ⟨_, cs', h1, h2⟩ := hV2 i q hi
        obtain ⟨_, hlen', hcl⟩ := World.cells?_some h1
        obtain ⟨v, v1, v2, v3⟩ := h2.2 j c hj
        have hjn : j < n := by have := (List.getElem?_eq_some_iff.1 hj).1; rw [he.len] at this; exact this
        have hcc := hcl j (by rw [he.size]; exact hjn)
        rw [v1, he.size, Addr.add_add] at hcc
        obtain ⟨s1, s2⟩ := hG_cell hcc
        rw [addr_block, addr_off] at s2
        refine ⟨v, fun h0 => ?_, by rw [Nat.add_assoc]; exact s2, v2, v3⟩
        rw [h0] at s1
        exact s1
      refine ⟨V, ⟨rfl, fun j c hc => ?_⟩, h63, fun q hq => ?_⟩
      · cases j with
        | succ j => simp [AV.cells] at hc
        | zero =>
          obtain rfl : AV.sl ro n (V.map av) = c := by simpa [AV.cells] using hc
          refine ⟨_, rfl, rfl, .sl (some a) V.length cap ro n (V.map av) a.block a.off (fun i j => (hG w a.block (a.off + i * n + j)).getD default) (by simp) hl (fun hne => ?_) (fun i y hy => ?_) (fun i y j c hy hc' => ?_) (fun i y j c hy hc' => ?_)⟩
          · have : 0 < V.length := by
              rcases V with _ | ⟨q, V⟩
              · exact absurd rfl hne
              · simp
            have hq : V[0]? = some V[0] := List.getElem?_eq_getElem this
            obtain ⟨c, hc'⟩ : ∃ c, (av V[0]).cells[0]? = some c := ⟨_, List.getElem?_eq_getElem (by rw [he.len V[0]]; exact hn)⟩
            obtain ⟨v, s1, _⟩ := hcell 0 V[0] 0 c hq hc'
            have s1 := s1 (by omega)
            obtain ⟨b, o, s⟩ := a
            simp only at s1
            subst s1
            rfl
          · rw [List.getElem?_map] at hy
            obtain ⟨q, _, rfl⟩ := Option.map_eq_some_iff.1 hy
            exact he.len q
          · rw [List.getElem?_map] at hy
            obtain ⟨q, hq, rfl⟩ := Option.map_eq_some_iff.1 hy
            obtain ⟨v, _, s2, s3, _⟩ := hcell i q j c hq hc'
            rw [s2]
            exact ⟨rfl, s3⟩
          · rw [List.getElem?_map] at hy
            obtain ⟨q, hq, rfl⟩ := Option.map_eq_some_iff.1 hy
            obtain ⟨v, _, s2, s3, s4⟩ := hcell i q j c hq hc'
            rw [s2]
            exact s4
      · obtain ⟨i, hi, rfl⟩ := List.mem_iff_getElem.1 hq
        exact (hV2 i _ (List.getElem?_eq_getElem hi)).1
theorem OpSeg.one {f : Field} {o : Nat} (ho : f.offset = o) (h : OpA B P f.type n av G) : OpSeg B P [f] o n (fun a => (av a).cells) G := by
  refine ⟨h.len, ?_⟩
  intro H enc w base spare held fuel cs hB hx hl
  obtain ⟨y, hy⟩ := hx 0 f rfl
  rw [ho, h.size, List.take_of_length_le (by simp; omega)] at hy
  exact h.out hB hy
theorem Cells.app {w : World} {cs ds : List Value} {l m : List AV} (h : Cells w cs l) (h2 : Cells w ds m) : Cells w (cs ++ ds) (l ++ m) := by
  refine ⟨by simp [h.1, h2.1], fun j c hc => ?_⟩
  rcases Nat.lt_or_ge j l.length with hj | hj
  · rw [List.getElem?_append_left hj] at hc
    rw [List.getElem?_append_left (by rw [h.1]; exact hj)]
    exact h.2 j c hc
  · rw [List.getElem?_append_right hj] at hc
    rw [List.getElem?_append_right (by rw [h.1]; exact hj), h.1]
    exact h2.2 _ c hc
theorem OpSeg.cons {f : Field} {fs : List Field} {o m : Nat} {g : β → List AV} {G' : β → Prop} (ho : f.offset = o) (h : OpA B P f.type n av G) (hs : OpSeg B P fs (o + n) m g G') : OpSeg B P (f :: fs) o (n + m) (fun p : α × β => (av p.1).cells ++ g p.2) (fun p => G p.1 ∧ G' p.2) := by
  refine ⟨fun p => by rw [List.length_append, h.len, hs.len], ?_⟩
  intro H enc w base spare held fuel cs hB hx hl
  obtain ⟨y, hy⟩ := hx 0 f rfl
  rw [ho, h.size] at hy
  obtain ⟨a, ha, ga⟩ := h.out hB hy
  obtain ⟨b, hb, gb⟩ := hs.out hB (fun i g hg => hx (i + 1) g (by simpa using hg)) (by omega)
  refine ⟨(a, b), ?_, ga, gb⟩
  have := ha.app hb
  rw [← List.drop_drop, List.take_append_drop] at this
  exact this
/-- A struct, told by a type of its own: 'to' goes from the pairs of its fields. -/
theorem OpA.struct {fs : Array Field} {g : β → List AV} {G' : β → Prop} {G : α → Prop} {av : α → List AV} (ht : P.underlying t = some (.struct fs)) (hc : P.cellsOf t = n) (to : β → α) (hto : ∀ b, av (to b) = g b) (hG : ∀ b, G' b → G (to b)) (hl : ∀ a, (av a).length = n) (h : OpSeg B P fs.toList 0 n g G') : OpA (B + 1) P t n (fun a => .agg (av a)) G where
  size := hc
  len := hl
  out := fun hB hx => by
    obtain ⟨xs, m, hm, _, hl, hlen, hf⟩ := DataW.trod_struct ht hx
    obtain ⟨b, hb, gb⟩ := h.out (fuel := m) (by omega) (fun i f hi => by
      rw [hf i f (by simpa using hi)]
      have : i < fs.size := by
        have := (List.getElem?_eq_some_iff.1 hi).1
        simpa using this
      exact ⟨_, List.getElem?_eq_getElem (by omega)⟩) (by rw [hl, hc]; omega)
    exact ⟨to b, by show Cells _ _ (av (to b)); rw [hto]; simpa using hb, hG b gb⟩
theorem OpA.less {B' : Nat} (h : OpA B P t n av G) (hB : B' ≤ B) : OpA B' P t n av G := ⟨h.size, h.len, fun hb hx => h.out (by omega) hx⟩
end
/-- A cell out of the memory, as the machine has it. -/
theorem rel_rep {x : X} {base : Nat} {v : Value} {c : AV} (h : RepD x.G v c) (hc : Pl c) : Rel x base v c := by
  cases h with
  | un v => exact .un v
  | lit v h => exact .lit v h
  | sl A n cap m sz xs b o f h1 h2 h3 h4 h5 h6 =>
    have hm : m = ro := by
      simp only [Pl, mkF, AV.sl.injEq, and_true] at hc
      exact hc.symm
    subst hm
    exact .sl _ _ _ _ (.sl A n cap ro sz xs b o f h1 h2 h3 h4 h5 h6) (fun hf => (by cases hf)) trivial
theorem rel_struct {x : X} {base : Nat} {w : World} {cs : Array Value} {l : List AV} (hx : x.G = hG w) (h : Cells w cs.toList l) (hl : PlL l) : Rel x base (.agg cs) (.agg l) := by
  refine .agg _ _ (by simpa using h.1) fun j v c hv hc => ?_
  obtain ⟨u, hu, _, hr⟩ := h.2 j c hc
  rw [Array.getElem?_toList, hv] at hu
  obtain rfl := Option.some.inj hu
  exact rel_rep (by rw [hx]; exact hr) (PlL_iff.1 hl c (List.mem_of_getElem? hc))
theorem rel_one' {x : X} {base : Nat} {w : World} {v : Value} {c : AV} (hx : x.G = hG w) (h : Cells w [v] [c]) (hl : Pl c) : Rel x base v c := by
  obtain ⟨u, hu, _, hr⟩ := h.2 0 c rfl
  obtain rfl : v = u := by simpa using hu
  exact rel_rep (by rw [hx]; exact hr) hl
/-- From a law's contract to its calls. -/
theorem row_calls {E : Env} {f : Nat} {avs : List AV} (hF : Fx E f [] avs [] (.lit (.bool true))) {w : World} (hK : E.K w) {vs : Array Value} (hlen : vs.size = avs.length) (hrel : ∀ (x : X), x.G = hG w → ∀ (i : Nat) (v : Value) (c : AV), vs[i]? = some v → avs[i]? = some c → Rel x w.heap.size v c) : Calls E.P f vs w fun e w' => e = .returned (.bool true) ∧ Below w.heap.size w w' := by
  let x : X := ⟨hG w, fun _ => 0, fun _ => (1, 0), fun _ => none, fun _ _ => False, fun _ _ => False, fun _ => none⟩
  refine (hF.2.2 x w vs hK (fun _ => rfl) (fun n hn => by simp at hn) ⟨fun b o h => h.elim, fun b o h => h.elim, fun _ _ h => h⟩ hlen (hrel x rfl) (agree_hG w) (fun n l hl => by simp at hl) (fun n m hn => by simp at hn)).mono ?_
  rintro e w' ⟨v, x', rfl, h1, _, _, _, h5, _⟩
  have := h1.lit_inv
  subst this
  exact ⟨rfl, ⟨h5.1, h5.2.1, h5.2.2.1, h5.2.2.2.1, fun k hk => h5.2.2.2.2 k hk (by rintro (⟨n, hn, _⟩ | ⟨_, h⟩); simp at hn; exact h)⟩⟩
end Go.Proofs.Ytpopccnnjpdmlaa.Vm
