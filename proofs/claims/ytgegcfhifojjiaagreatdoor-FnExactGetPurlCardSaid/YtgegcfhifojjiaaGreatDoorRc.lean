/- Rows of a door seat: the tables of cases and of UTF-8. -/
import Derived.Test.YtgegcfhifojjiaaGreatDoorRz
import Derived.Test.YtgegcfhifojjiaaGreatDoorGp
import Derived.Lib.LaidCase
import Derived.PinnedBridge
namespace Go.Proofs.YtgegcfhifojjiaaGreatDoor.Vm
open Go Go.RowKit Go.ChangeShapes Go.WideShapes Go.Shelf
set_option linter.unusedVariables false
theorem KC_of {W : World} {l : List (String × DataW Unit)} (hL : laidMet Go.Proofs.Tryz.prog l W) (h1 : ("unicode.CaseRanges", Rows.laid_unicode_CaseRanges) ∈ l) (h2 : ("unicode/utf8.first", Rows.laid_unicode_utf8_first) ∈ l) (h3 : ("unicode/utf8.acceptRanges", Rows.laid_unicode_utf8_acceptRanges) ∈ l) : KC W := by
  have r1 : Lib.VarReads Go.Proofs.Tryz.prog W "unicode.CaseRanges" Lib.caseData := Pinned.caseRanges_eq ▸ Lib.laidMet.reads hL h1
  have r2 : Lib.VarReads Go.Proofs.Tryz.prog W "unicode/utf8.first" Lib.firstData := Pinned.utf8First_eq ▸ Lib.laidMet.reads hL h2
  have r3 : Lib.VarReads Go.Proofs.Tryz.prog W "unicode/utf8.acceptRanges" Lib.acceptData := by
    have e : (Rows.laid_unicode_utf8_acceptRanges : DataW Unit) = Lib.acceptData := by kernel_rfl
    rw [← e]
    exact Lib.laidMet.reads hL h3
  exact ⟨caseVar_of_reads (ρ := Go.Proofs.Tryz.lays159_ren) { Go.Proofs.Tryz.lays159 with } (by kernel_rfl) ⟨by kernel_rfl, by kernel_rfl, by kernel_rfl, by kernel_rfl, by kernel_rfl, by kernel_rfl⟩ r1,
    utf8Tabs_of_reads (ρ := Go.Proofs.Tryz.lays159_ren) { Go.Proofs.Tryz.lays159 with } ⟨by kernel_rfl, by kernel_rfl, by kernel_rfl, by kernel_rfl, by kernel_rfl, by kernel_rfl, by kernel_rfl⟩ r2 r3⟩
theorem KC_EW {W : World} (h : KC W) : ∀ w, (EW W).K w → KC w := fun w hw => by
  have hb : ∀ (b o : Nat) (v : Value), W.cell? ⟨b, o, none⟩ = some v → w.cell? ⟨b, o, none⟩ = some v := fun b o v hv => by
    have hlt : b < W.heap.size := by
      rcases Nat.lt_or_ge b W.heap.size with h2 | h2
      · exact h2
      · simp [World.cell?, Array.getElem?_eq_none h2] at hv
    exact (World.cell?_of_block (w := W) (hw.2 b hlt)).trans hv
  obtain ⟨⟨R, oR, cap, c1, c2⟩, u⟩ := h
  exact ⟨⟨R, oR, cap, hb _ _ _ c1, fun i hi => ⟨hb _ _ _ (c2 i hi).1, hb _ _ _ (c2 i hi).2.1, hb _ _ _ (c2 i hi).2.2.1, hb _ _ _ (c2 i hi).2.2.2.1, hb _ _ _ (c2 i hi).2.2.2.2⟩⟩, ⟨fun c hc => hb _ _ _ (u.1 c hc), fun i hi => ⟨hb _ _ _ (u.2 i hi).1, hb _ _ _ (u.2 i hi).2⟩⟩⟩
end Go.Proofs.YtgegcfhifojjiaaGreatDoor.Vm
