/- What an argument that can be read as data holds, kind by kind. -/
import Derived.Test.YtadafhefdbfbgaaWMore
import Derived.Deep.Slices
import Derived.ChangeSame
import Derived.SizedLaws
import Derived.ChangeSlices
import Derived.OpenShut
import Derived.Carry
namespace Go.Proofs.YtadafhefdbfbgaaW.PrintMore
open Go.Deep (open_slice)
open Go.RowKit Go.ChangeShapes Go.WideShapes Go.Proofs.YtadafhefdbfbgaaW.PrintWords Go.Proofs.YtadafhefdbfbgaaW.PrintWords.Kd
/-- Data of type t, read out of cells, are a value of the kind d, and a good one. -/
structure Opens {α : Type} (P : Program) (t : TypeId) (d : Kd α) (G : α → Prop) : Prop where
  size : P.cellsOf t = d.sz
  out : ∀ {H : Type} {enc : TypeId × Value → H} {w : World} {base : Nat} {spare : Nat → Bool} {held : Bool} {fuel : Nat} {cs : List Value} {x : DataW H × List MemPlace},
    DataW.trod enc P w base spare held fuel t cs = some x → ∃ a : α, d.K w a cs ∧ G a
/-- The same of a struct's fields from the o-th cell on. -/
structure OpensSeg {α : Type} (P : Program) (fs : List Field) (o : Nat) (d : Kd α) (G : α → Prop) : Prop where
  out : ∀ {H : Type} {enc : TypeId × Value → H} {w : World} {base : Nat} {spare : Nat → Bool} {held : Bool} {fuel : Nat} {cs : List Value},
    (∀ (i : Nat) (f : Field), fs[i]? = some f → ∃ y, DataW.trod enc P w base spare held fuel f.type ((cs.drop f.offset).take (P.cellsOf f.type)) = some y) → cs.length = o + d.sz → ∃ a : α, d.K w a (cs.drop o) ∧ G a
section
variable {P : Program} {t e : TypeId} {α β : Type} {d : Kd α} {G : α → Prop}
theorem Opens.string (ht : P.underlying t = some .string) (hc : P.cellsOf t = 1) : Opens P t Kd.string (fun s => s.size ≤ 9223372036854775807) where
  size := hc
  out := fun h => by
    obtain ⟨s, h1, _, h2⟩ := DataW.trod_string ht h
    exact ⟨s, by rw [h1]; rfl, by simpa [maxLen] using h2⟩
theorem Opens.bool (ht : P.underlying t = some .bool) (hc : P.cellsOf t = 1) : Opens P t Kd.bool (fun _ => True) where
  size := hc
  out := fun h => by
    obtain ⟨b, h1, _⟩ := DataW.trod_bool ht h
    exact ⟨b, by rw [h1]; rfl, trivial⟩
theorem Opens.int {k : IntKind} (ht : P.underlying t = some (.int k)) (hc : P.cellsOf t = 1) : Opens P t (Kd.int k) (fun n => (Lit.int k n).wf = true) where
  size := hc
  out := fun h => by
    obtain ⟨n, h1, _, hw⟩ := DataW.trod_int ht h
    exact ⟨n, by rw [h1]; rfl, hw⟩
def GPair {α β : Type} (G : α → Prop) (G' : β → Prop) : α × β → Prop := fun x => G x.1 ∧ G' x.2
def GoodL {α : Type} (G : α → Prop) (xs : List α) : Prop := xs.length ≤ 9223372036854775807 ∧ ∀ x ∈ xs, G x
theorem Opens.slice (ht : P.underlying t = some (.slice e)) (hc : P.cellsOf t = 1) (he : Opens P e d G) : Opens P t (Kd.slice e d) (GoodL G) where
  size := hc
  out := fun {H enc w base spare held fuel cs x} h => by
    rcases open_slice ht h with ⟨h1, _⟩ | ⟨a, len, cap, m, n, D, Pl, rfl, hb, hl, hm, hmm, _, hx⟩
    · refine ⟨[], ⟨none, 0, h1, Nat.le_refl _, ?_⟩, by simp [GoodL]⟩
      exact ⟨rfl, by simp, fun h => by simp at h⟩
    · have hlm : len ≤ m := by rw [hmm]; split <;> omega
      have each : ∀ i, i < len → ∃ q : α, G q ∧ ∃ cs', w.cells? base (a.add (i * P.cellsOf e)) (P.cellsOf e) = some cs' ∧ d.K w q cs' := by
        intro i hi
        obtain ⟨cs', h1, h2⟩ := hx i (by omega)
        obtain ⟨q, hq, hg⟩ := he.out h2
        exact ⟨q, hg, cs', h1, hq⟩
      have ⟨V, hV⟩ : ∃ xs : List α, xs.length = len ∧ ∀ i q, xs[i]? = some q → G q ∧ ∃ cs', w.cells? base (a.add (i * P.cellsOf e)) (P.cellsOf e) = some cs' ∧ d.K w q cs' := by
        clear hx hmm hlm
        have hall : ∀ k, k ≤ len → ∃ xs : List α, xs.length = k ∧ ∀ i q, xs[i]? = some q → G q ∧ ∃ cs', w.cells? base (a.add (i * P.cellsOf e)) (P.cellsOf e) = some cs' ∧ d.K w q cs' := by
          intro k
          induction k with
          | zero => intro _; exact ⟨[], rfl, fun i q h => by simp at h⟩
          | succ k ih =>
            intro hk
            obtain ⟨xs, h1, h2⟩ := ih (by omega)
            obtain ⟨q, hq⟩ := each k (by omega)
            refine ⟨xs ++ [q], by simp [h1], fun i p hp => ?_⟩
            rcases Nat.lt_trichotomy i k with hi | hi | hi
            · rw [List.getElem?_append_left (by omega)] at hp; exact h2 i p hp
            · subst hi
              rw [List.getElem?_append_right (by omega), h1] at hp
              simp at hp; subst hp; exact hq
            · rw [List.getElem?_eq_none (by simp; omega)] at hp; cases hp
        exact hall len (Nat.le_refl _)
      obtain ⟨rfl, hV2⟩ := hV
      have h63 : V.length ≤ 9223372036854775807 := by have : cap ≤ 9223372036854775807 := by simpa [maxLen] using hm
                                                      omega
      refine ⟨V, ⟨some a, cap, rfl, hl, rfl, h63, fun hp => ⟨a, rfl, fun j p hj => ?_⟩⟩, h63, fun q hq => ?_⟩
      · obtain ⟨_, cs', h1, h2⟩ := hV2 j p hj
        obtain ⟨_, hlen, hcell⟩ := World.cells?_some h1
        rw [he.size] at h1 hcell hlen
        refine ⟨cs', hlen, h2, fun i u hu => ?_⟩
        have hi : i < d.sz := by have := (List.getElem?_eq_some_iff.1 hu).1; omega
        have := hcell i hi
        rw [hu] at this
        rw [Addr.add_add] at this
        exact this
      · obtain ⟨i, hi, rfl⟩ := List.mem_iff_getElem.1 hq
        exact (hV2 i _ (List.getElem?_eq_getElem hi)).1
theorem OpensSeg.one {f : Field} {o : Nat} (ho : f.offset = o) (h : Opens P f.type d G) : OpensSeg P [f] o d G := by
  constructor
  intro H enc w base spare held fuel cs hx hl
  obtain ⟨y, hy⟩ := hx 0 f rfl
  rw [ho, h.size, List.take_of_length_le (by simp; omega)] at hy
  exact h.out hy
theorem OpensSeg.cons {f : Field} {fs : List Field} {o : Nat} {d' : Kd β} {G' : β → Prop} (ho : f.offset = o) (h : Opens P f.type d G) (hs : OpensSeg P fs (o + d.sz) d' G') : OpensSeg P (f :: fs) o (Kd.pair d d') (GPair G G') := by
  constructor
  intro H enc w base spare held fuel cs hx hl
  have hl' : cs.length = o + (d.sz + d'.sz) := hl
  obtain ⟨y, hy⟩ := hx 0 f rfl
  rw [ho, h.size] at hy
  obtain ⟨a, ha, ga⟩ := h.out hy
  obtain ⟨b, hb, gb⟩ := hs.out (fun i g hg => hx (i + 1) g (by simpa using hg)) (by omega)
  refine ⟨(a, b), ⟨(cs.drop o).take d.sz, cs.drop (o + d.sz), ?_, ha, hb⟩, ga, gb⟩
  rw [← List.drop_drop, List.take_append_drop]
theorem OpensSeg.iso {fs : List Field} {o : Nat} (h : OpensSeg P fs o d G) (f : β → α) (g : α → β) (hfg : ∀ x, f (g x) = x) : OpensSeg P fs o (Kd.iso d f) (fun y => G (f y)) := by
  constructor
  intro H enc w base spare held fuel cs hx hl
  obtain ⟨a, ha, ga⟩ := h.out hx hl
  exact ⟨g a, by show d.K w (f (g a)) _; rw [hfg]; exact ha, by show G (f (g a)); rw [hfg]; exact ga⟩
theorem Opens.struct {fs : Array Field} (ht : P.underlying t = some (.struct fs)) (hc : P.cellsOf t = d.sz) (h : OpensSeg P fs.toList 0 d G) : Opens P t d G where
  size := hc
  out := fun hx => by
    obtain ⟨xs, n, _, _, hl, hlen, hf⟩ := DataW.trod_struct ht hx
    have := h.out (fuel := n) (fun i f hi => by
      rw [hf i f (by simpa using hi)]
      have : i < fs.size := by
        have := (List.getElem?_eq_some_iff.1 hi).1
        simpa using this
      exact ⟨_, List.getElem?_eq_getElem (by omega)⟩) (by rw [hl, hc]; omega)
    simpa using this
end
end Go.Proofs.YtadafhefdbfbgaaW.PrintMore
