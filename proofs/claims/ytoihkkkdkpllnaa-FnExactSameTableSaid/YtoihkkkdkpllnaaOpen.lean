/- What an argument that can be read as data holds, kind by kind. -/
import Derived.Test.YtoihkkkdkpllnaaWMore
import Derived.Deep.Slices
import Derived.ChangeSame
import Derived.SizedLaws
import Derived.ChangeSlices
import Derived.OpenShut
import Derived.Carry
namespace Go.Proofs.YtoihkkkdkpllnaaW.PrintMore
open Go.Deep (open_slice)
open Go.RowKit Go.ChangeShapes Go.WideShapes Go.Proofs.YtoihkkkdkpllnaaW.PrintWords Go.Proofs.YtoihkkkdkpllnaaW.PrintWords.Kd
/-- Data of type t, read out of cells, are a value of the kind d, and a good one. -/
structure Opens {α : Type} (B : Nat) (P : Program) (t : TypeId) (d : Kd α) (G : α → Prop) : Prop where
  size : P.cellsOf t = d.sz
  out : ∀ {H : Type} {enc : TypeId × Value → H} {w : World} {base : Nat} {spare : Nat → Bool} {held : Bool} {fuel : Nat} {cs : List Value} {x : DataW H × List MemPlace}, fuel ≤ B →
    DataW.trod enc P w base spare held fuel t cs = some x → ∃ a : α, d.K w a cs ∧ G a
/-- The same of a struct's fields from the o-th cell on. -/
structure OpensSeg {α : Type} (B : Nat) (P : Program) (fs : List Field) (o : Nat) (d : Kd α) (G : α → Prop) : Prop where
  out : ∀ {H : Type} {enc : TypeId × Value → H} {w : World} {base : Nat} {spare : Nat → Bool} {held : Bool} {fuel : Nat} {cs : List Value}, fuel ≤ B →
    (∀ (i : Nat) (f : Field), fs[i]? = some f → ∃ y, DataW.trod enc P w base spare held fuel f.type ((cs.drop f.offset).take (P.cellsOf f.type)) = some y) → cs.length = o + d.sz → ∃ a : α, d.K w a (cs.drop o) ∧ G a
section
variable {B : Nat} {P : Program} {t e : TypeId} {α β : Type} {d : Kd α} {G : α → Prop}
theorem Opens.string (ht : P.underlying t = some .string) (hc : P.cellsOf t = 1) : Opens B P t Kd.string (fun s => s.size ≤ 9223372036854775807) where
  size := hc
  out := fun _ h => by
    obtain ⟨s, h1, _, h2⟩ := DataW.trod_string ht h
    exact ⟨s, by rw [h1]; rfl, by simpa [maxLen] using h2⟩
theorem Opens.bool (ht : P.underlying t = some .bool) (hc : P.cellsOf t = 1) : Opens B P t Kd.bool (fun _ => True) where
  size := hc
  out := fun _ h => by
    obtain ⟨b, h1, _⟩ := DataW.trod_bool ht h
    exact ⟨b, by rw [h1]; rfl, trivial⟩
theorem Opens.int {k : IntKind} (ht : P.underlying t = some (.int k)) (hc : P.cellsOf t = 1) : Opens B P t (Kd.int k) (fun n => (Lit.int k n).wf = true) where
  size := hc
  out := fun _ h => by
    obtain ⟨n, h1, _, hw⟩ := DataW.trod_int ht h
    exact ⟨n, by rw [h1]; rfl, hw⟩
def GPair {α β : Type} (G : α → Prop) (G' : β → Prop) : α × β → Prop := fun x => G x.1 ∧ G' x.2
def GoodL {α : Type} (G : α → Prop) (xs : List α) : Prop := xs.length ≤ 9223372036854775807 ∧ ∀ x ∈ xs, G x
theorem Opens.slice (ht : P.underlying t = some (.slice e)) (hc : P.cellsOf t = 1) (he : Opens B P e d G) : Opens B P t (Kd.slice e d) (GoodL G) where
  size := hc
  out := fun {H enc w base spare held fuel cs x} hB h => by
    rcases DataW.trod_slice ht h with ⟨h1, _⟩ | ⟨a, len, cap, elems, rest, n, hn, rfl, _, hb, hl, hm, hlen, hel, _, _⟩
    · refine ⟨[], ⟨none, 0, h1, Nat.le_refl _, ?_⟩, by simp [GoodL]⟩
      exact ⟨rfl, by simp, fun h => by simp at h⟩
    · have hx : ∀ i, i < len → ∃ cs', w.cells? base (a.add (i * P.cellsOf e)) (P.cellsOf e) = some cs' ∧ ∃ y, DataW.trod enc P w base spare held n e cs' = some y := by
        intro i hi
        have h1 := hel i hi
        rw [List.getElem?_eq_getElem (by omega : i < elems.length)] at h1
        obtain ⟨cs', h2, h3⟩ := Option.bind_eq_some_iff.1 h1
        exact ⟨cs', h2, _, h3⟩
      have each : ∀ i, i < len → ∃ q : α, G q ∧ ∃ cs', w.cells? base (a.add (i * P.cellsOf e)) (P.cellsOf e) = some cs' ∧ d.K w q cs' := by
        intro i hi
        obtain ⟨cs', h1, _, h2⟩ := hx i hi
        obtain ⟨q, hq, hg⟩ := he.out (by omega) h2
        exact ⟨q, hg, cs', h1, hq⟩
      have ⟨V, hV⟩ : ∃ xs : List α, xs.length = len ∧ ∀ i q, xs[i]? = some q → G q ∧ ∃ cs', w.cells? base (a.add (i * P.cellsOf e)) (P.cellsOf e) = some cs' ∧ d.K w q cs' := by
        clear hx hlen hel
        have hall : ∀ k, k ≤ len → ∃ xs : List α, xs.length = k ∧ ∀ i q, xs[i]? = some q → G q ∧ ∃ cs', w.cells? base (a.add (i * P.cellsOf e)) (P.cellsOf e) = some cs' ∧ d.K w q cs' := by
          intro k
          induction k with
          | zero => intro _; exact ⟨[], rfl, fun i q h => by simp at h⟩
          | succ k ih =>
            intro hk
            obtain ⟨xs, h1, h2⟩ := ih (by omega)
            obtain ⟨q, hq⟩ := each k (by omega)
            refine ⟨xs ++ [q], by simp [h1], fun i p hp => ?_⟩
            rcases Nat.lt_trichotomy i k with hi | hi | hi
            · rw [List.getElem?_append_left (by omega)] at hp; exact h2 i p hp
            · subst hi
              rw [List.getElem?_append_right (by omega), h1] at hp
              simp at hp; subst hp; exact hq
            · rw [List.getElem?_eq_none (by simp; omega)] at hp; cases hp
        exact hall len (Nat.le_refl _)
      obtain ⟨rfl, hV2⟩ := hV
      have h63 : V.length ≤ 9223372036854775807 := by have : cap ≤ 9223372036854775807 := by simpa [maxLen] using hm
                                                      omega
      refine ⟨V, ⟨some a, cap, rfl, hl, rfl, h63, fun hp => ⟨a, rfl, fun j p hj => ?_⟩⟩, h63, fun q hq => ?_⟩
      · obtain ⟨_, cs', h1, h2⟩ := hV2 j p hj
        obtain ⟨_, hlen, hcell⟩ := World.cells?_some h1
        rw [he.size] at h1 hcell hlen
        refine ⟨cs', hlen, h2, fun i u hu => ?_⟩
        have hi : i < d.sz := by have := (List.getElem?_eq_some_iff.1 hu).1; omega
        have := hcell i hi
        rw [hu] at this
        rw [Addr.add_add] at this
        exact this
      · obtain ⟨i, hi, rfl⟩ := List.mem_iff_getElem.1 hq
        exact (hV2 i _ (List.getElem?_eq_getElem hi)).1
theorem OpensSeg.one {f : Field} {o : Nat} (ho : f.offset = o) (h : Opens B P f.type d G) : OpensSeg B P [f] o d G := by
  constructor
  intro H enc w base spare held fuel cs hB hx hl
  obtain ⟨y, hy⟩ := hx 0 f rfl
  rw [ho, h.size, List.take_of_length_le (by simp; omega)] at hy
  exact h.out hB hy
theorem OpensSeg.cons {f : Field} {fs : List Field} {o : Nat} {d' : Kd β} {G' : β → Prop} (ho : f.offset = o) (h : Opens B P f.type d G) (hs : OpensSeg B P fs (o + d.sz) d' G') : OpensSeg B P (f :: fs) o (Kd.pair d d') (GPair G G') := by
  constructor
  intro H enc w base spare held fuel cs hB hx hl
  have hl' : cs.length = o + (d.sz + d'.sz) := hl
  obtain ⟨y, hy⟩ := hx 0 f rfl
  rw [ho, h.size] at hy
  obtain ⟨a, ha, ga⟩ := h.out hB hy
  obtain ⟨b, hb, gb⟩ := hs.out hB (fun i g hg => hx (i + 1) g (by simpa using hg)) (by omega)
  refine ⟨(a, b), ⟨(cs.drop o).take d.sz, cs.drop (o + d.sz), ?_, ha, hb⟩, ga, gb⟩
  rw [← List.drop_drop, List.take_append_drop]
theorem OpensSeg.iso {fs : List Field} {o : Nat} (h : OpensSeg B P fs o d G) (f : β → α) (g : α → β) (hfg : ∀ x, f (g x) = x) : OpensSeg B P fs o (Kd.iso d f) (fun y => G (f y)) := by
  constructor
  intro H enc w base spare held fuel cs hB hx hl
  obtain ⟨a, ha, ga⟩ := h.out hB hx hl
  exact ⟨g a, by show d.K w (f (g a)) _; rw [hfg]; exact ha, by show G (f (g a)); rw [hfg]; exact ga⟩
theorem Opens.struct1 {fs : Array Field} (ht : P.underlying t = some (.struct fs)) (hc : P.cellsOf t = d.sz) (h : OpensSeg B P fs.toList 0 d G) : Opens (B + 1) P t d G where
  size := hc
  out := fun hB hx => by
    obtain ⟨xs, n, hn, _, hl, hlen, hf⟩ := DataW.trod_struct ht hx
    have := h.out (fuel := n) (by omega) (fun i f hi => by
      rw [hf i f (by simpa using hi)]
      have : i < fs.size := by
        have := (List.getElem?_eq_some_iff.1 hi).1
        simpa using this
      exact ⟨_, List.getElem?_eq_getElem (by omega)⟩) (by rw [hl, hc]; omega)
    simpa using this
theorem Opens.struct {fs : Array Field} (ht : P.underlying t = some (.struct fs)) (hc : P.cellsOf t = d.sz) (h : OpensSeg B P fs.toList 0 d G) : Opens B P t d G where
  size := hc
  out := fun hB hx => (Opens.struct1 ht hc h).out (by omega) hx
/-- A type whose elements are of the type itself: level for level. -/
theorem Opens.fix {F : Kd α → Kd α} {sz : Nat} {E : List Nat} {hs : ∀ n, (upto F sz E n).sz = sz} {hE : ∀ n q, q ∈ (upto F sz E n).E → q ∈ E} {GT : Nat → α → Prop} {fs : Array Field} (ht : P.underlying t = some (.struct fs)) (hc : P.cellsOf t = sz)
    (step : ∀ n, Opens n P t (upto F sz E n) (GT n) → OpensSeg n P fs.toList 0 (F (upto F sz E n)) (GT (n + 1))) : Opens B P t (Kd.fix F sz E hs hE) (fun x => ∃ n, GT n x) where
  size := hc
  out := by
    have all : ∀ n, Opens n P t (upto F sz E n) (GT n) := by
      intro n
      induction n with
      | zero => exact ⟨hc.trans (hs 0).symm, fun hB hx => by obtain ⟨_, _, hn, _⟩ := DataW.trod_struct ht hx; omega⟩
      | succ n ih => exact Opens.struct1 ht (hc.trans (hs (n + 1)).symm) (step n ih)
    intro H enc w base spare held fuel cs x hB hx
    obtain ⟨a, h1, h2⟩ := (all B).out hB hx
    exact ⟨a, ⟨B, h1⟩, B, h2⟩
end
end Go.Proofs.YtoihkkkdkpllnaaW.PrintMore
