/- Versions: impl's side. -/
import Derived.Test.YtgegcfhifojjiaaDoorVr
namespace Go.Proofs.YtgegcfhifojjiaaDoor.Vm
open Go Go.RowKit
set_option linter.unusedVariables false
set_option linter.unusedSimpArgs false

theorem joinB_pre : ∀ (p : ByteArray) (r : List ByteArray), joinB (p :: r) (by8 ".") = p ++ tailT r := by
  intro p r
  refine ba_ext ?_
  have h1 : (joinB (p :: r) (by8 ".")).data.toList = Lib.join ((p :: r).map (·.data.toList)) (by8 ".").data.toList := rfl
  rw [h1, List.map_cons, Lib.join_cons]
  have h2 : ∀ r : List ByteArray, (tailT r).data.toList = Lib.joinTail (by8 ".").data.toList (r.map (·.data.toList)) := by
    intro r
    induction r with
    | nil => simp [tailT, Lib.joinTail]; decide +kernel
    | cons q r ih =>
      simp only [tailT, Lib.joinTail, List.map_cons, List.flatten_cons] at ih ⊢
      rw [← ih]
      simp
  rw [← h2]
  simp
section
variable {E : Env} (hE : E.P = Go.Proofs.Tryd.prog) (hZ : ∀ w, E.K w → KZ w)
include hE hZ
end
def cutC (c : UInt8) (s : ByteArray) : AV := .tup (if 0 ≤ Lib.indexB s (one c) then [.lit (.string (s.extract 0 (Lib.indexB s (one c)).toNat)), .lit (.string (s.extract ((Lib.indexB s (one c)).toNat + 1) s.size)), .lit (.bool true)] else [.lit (.string s), .lit (.string (by8 "")), .lit (.bool false)])
section
variable {E : Env} (hE : E.P = Go.Proofs.Tryd.prog) (hZ : ∀ w, E.K w → KZ w)
include hE hZ
omit hZ in
theorem cutM_fx (hM : ∀ w, E.K w → KM w) (c : UInt8) (s : ByteArray) (hs : s.size < 4294967281) : Fx E 21 [] [.lit (.string s), .lit (.string (one c))] [] (cutC c s) := by
  have hres : resOk (cutC c s) = true := by unfold cutC; split <;> rfl
  have hrel : ∀ x base, Rel x base (.tuple #[.string ⟨(Lib.cut s.data.toList (one c).data.toList).1.toArray⟩, .string ⟨(Lib.cut s.data.toList (one c).data.toList).2.1.toArray⟩, .bool (Lib.cut s.data.toList (one c).data.toList).2.2]) (cutC c s) := by
    intro x base
    have tup3 : ∀ (a b : ByteArray) (d : Bool), Rel x base (.tuple #[.string a, .string b, .bool d]) (.tup [.lit (.string a), .lit (.string b), .lit (.bool d)]) := by
      intro a b d
      refine .tup _ _ rfl fun j v e hv he => ?_
      match j with
      | 0 => obtain rfl := Option.some.inj hv; obtain rfl := Option.some.inj he; exact .lit _ rfl
      | 1 => obtain rfl := Option.some.inj hv; obtain rfl := Option.some.inj he; exact .lit _ rfl
      | 2 => obtain rfl := Option.some.inj hv; obtain rfl := Option.some.inj he; exact .lit _ rfl
      | j + 3 => simp at he
    rcases idx_cases c s with ⟨h, _⟩ | ⟨i, _, _, _, h⟩
    · obtain ⟨q1, q2, q3⟩ := Lib.cutB_miss s (one c) h
      rw [q1, q2, q3, cutC, h, ← ba_nil]
      exact tup3 _ _ _
    · obtain ⟨q1, q2, q3⟩ := Lib.cutB_hit s (one c) i h
      rw [q1, q2, q3, cutC, h, if_pos (by omega)]
      exact tup3 _ _ _
  refine Fx_res (args := [.string s, .string (one c)]) hres hrel fun w hw => ?_
  rw [hE]
  obtain ⟨m, hm⟩ := hM w hw
  refine (Go.Proofs.Tryd.strings_Cut s (one c) m w hs hm).mono ?_
  rintro e w' ⟨rfl, n, rfl⟩
  exact ⟨rfl, ⟨rfl, rfl, rfl, Nat.le_refl _, fun _ _ => rfl⟩⟩
theorem cut_fx (c : UInt8) (s : ByteArray) (hs : s.size < 4294967281) : Fx E 21 [] [.lit (.string s), .lit (.string (one c))] [] (cutC c s) := cutM_fx hE (fun w h => (hZ w h).km) c s hs
noncomputable def isVer (s : ByteArray) : Bool := (readVer s).isSome
end
end Go.Proofs.YtgegcfhifojjiaaDoor.Vm
