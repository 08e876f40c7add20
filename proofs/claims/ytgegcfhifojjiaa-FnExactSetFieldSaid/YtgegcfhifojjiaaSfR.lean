/- SetField: the row. For all tables and fields, the program's SetField returns what the reference's SetField returns, leaves both as they were, and owns what it returns. No condition. -/
import Derived.Test.YtgegcfhifojjiaaRows
import Derived.Test.YtgegcfhifojjiaaSfL
import Derived.WalkKit
import Derived.ProofKit
import Derived.OpenShut
import Derived.ChangeOld
import Derived.ChangeMaps
import Derived.Below
import Derived.SizedLaws
namespace Go.Proofs.Ytgegcfhifojjiaa.Vm
open Go Go.RowKit Go.ChangeShapes Go.WideShapes
set_option linter.unusedVariables false
noncomputable def E0 : Env := ⟨Go.Proofs.Try.prog, fun _ => True, 0, fun _ _ _ _ h => h, fun _ _ => Nat.zero_le _, by kernel_rfl⟩
theorem opStr {B : Nat} : OpA B Go.Proofs.Try.prog 9 1 (fun s : ByteArray => .lit (.string s)) (fun s => s.size ≤ 9223372036854775807) := OpA.string Go.Proofs.Try.underlying9 (by kernel_rfl)
theorem opBool {B : Nat} : OpA B Go.Proofs.Try.prog 4 1 (fun b : Bool => .lit (.bool b)) (fun _ => True) := OpA.bool Go.Proofs.Try.underlying4 (by kernel_rfl)
theorem opStrs {B : Nat} : OpA B Go.Proofs.Try.prog 25 1 (fun xs : List ByteArray => .sl ro 1 (xs.map fun s => .lit (.string s))) (GoodL fun s => s.size ≤ 9223372036854775807) := OpA.slice Go.Proofs.Try.underlying25 (by kernel_rfl) opStr (by decide)
theorem opField {B : Nat} : OpA B Go.Proofs.Try.prog 27 4 (fun x : Fld => .agg x.av) Fld.good := by
  have seg := OpSeg.cons (B := B) (P := Go.Proofs.Try.prog) (f := ⟨ "Key", 9, 0, false, "", "", 0⟩) rfl opStr (OpSeg.cons (f := ⟨ "Text", 9, 1, false, "", "", 16⟩) rfl opStr (OpSeg.cons (f := ⟨ "List", 25, 2, false, "", "", 32⟩) rfl opStrs (OpSeg.one (f := ⟨ "IsList", 4, 3, false, "", "", 56⟩) rfl opBool)))
  exact (OpA.struct (B := B) (n := 4) (av := Fld.av) (G := Fld.good) Go.Proofs.Try.underlying27 (by kernel_rfl) (fun p : ByteArray × ByteArray × List ByteArray × Bool => (⟨p.1, p.2.1, p.2.2.1, p.2.2.2⟩ : Fld)) (fun _ => rfl) (fun p h => ⟨h.1, h.2.1, h.2.2.1.1, h.2.2.1.2⟩) (fun _ => rfl) seg).less (Nat.le_succ _)
theorem opFields {B : Nat} : OpA B Go.Proofs.Try.prog 22 1 (fun xs : List Fld => .sl ro 4 (xs.map fun x => .agg x.av)) (GoodL Fld.good) := OpA.slice Go.Proofs.Try.underlying22 (by kernel_rfl) opField (by decide)
theorem opTable {B : Nat} : OpA B Go.Proofs.Try.prog 24 2 (fun x : Tb => .agg x.av) Tb.good := by
  have seg := OpSeg.cons (B := B) (P := Go.Proofs.Try.prog) (f := ⟨ "Name", 9, 0, false, "", "", 0⟩) rfl opStr (OpSeg.one (f := ⟨ "Fields", 22, 1, false, "", "", 16⟩) rfl opFields)
  exact (OpA.struct (B := B) (n := 2) (av := Tb.av) (G := Tb.good) Go.Proofs.Try.underlying24 (by kernel_rfl) (fun p : ByteArray × List Fld => (⟨p.1, p.2⟩ : Tb)) (fun _ => rfl) (fun p h => ⟨h.1, h.2.1, h.2.2⟩) (fun _ => rfl) seg).less (Nat.le_succ _)
end Go.Proofs.Ytgegcfhifojjiaa.Vm
namespace Go.Proofs.Ytgegcfhifojjiaa.fnExactSetField
open Go.ChangeShapes Go.WideShapes Go.ChangeAt Go.RowKit
open Go.Proofs.Ytgegcfhifojjiaa.Vm
set_option linter.unusedVariables false
theorem own : ownKnob Try.prog.godebug = none := by kernel_rfl
theorem laidOut : laidOutB Try.prog = true := by kernel_rfl
set_option maxRecDepth 100000 in
theorem lifted (os : Os) (started : os.Started) (H : Type) (enc : TypeId × Value → H) :
    ReturnsInHanded {} Try.checked os 3 .any (Rows.fnExactSetFieldSpec.pre6 enc Try.prog Try.f3 Rows.fnExactSetFieldRow.domain false) (Rows.fnExactSetFieldSpec.post enc Try.prog Try.f3 false true false false) := by
  refine returnsInHanded_of_change_sized (C := Try.checked) own started (by kernel_rfl) Try.func3
    (ChangeSpec.witness6 (enc := enc) (C := Try.checked) false ⟨#[], #[.agg #[.string ByteArray.empty, .slice none 0 0], .agg #[.string ByteArray.empty, .string ByteArray.empty, .slice none 0 0, .bool false]], []⟩ 8 (by kernel_rfl) (by kernel_rfl) (by kernel_rfl) (by kernel_rfl)) ?_
  intro W base args ds gs before hval0 hW hcnd hsz0 _
  have hval : ∀ (j : Nat) t v, Try.f3.params[j]? = some t → args[j]? = some v → Value.okWide Try.prog W .any base t v := hval0
  have hW' := hW
  obtain ⟨p, q, hA0, hV, rfl, hfz, hnd⟩ := hW
  have hA : DataW.TrodAll enc Try.prog W 0 (fun _ => true) true Try.f3.params.toList args.toList ds p := hA0
  rw [Try.params3] at hA hval
  obtain ⟨v0, vs0, d0, ds0, p0, q0, hargs, rfl, rfl, h0, r0⟩ := trodAll_cons hA
  obtain ⟨v1, vs1, d1, ds1, p1, q1, rfl, rfl, rfl, h1, r1⟩ := trodAll_cons r0
  obtain ⟨rfl, rfl, rfl⟩ := trodAll_nil r1
  obtain rfl : args = #[v0, v1] := by cases args; simp_all
  obtain ⟨rfl, rfl⟩ := trodVars_none hV
  obtain ⟨cs0, rfl, hs0⟩ := okWide_struct Try.underlying24 (hval 0 24 v0 rfl rfl)
  have k0 := h0
  have lt0 : ∀ x ∈ p0, x.block < W.heap.size := by obtain ⟨m, hm⟩ := k0; exact DataW.trod_lt m _ _ _ hm
  obtain ⟨fu0, hf0⟩ := h0
  obtain ⟨x0, hK0, hg0⟩ := (opTable (B := fu0)).out (Nat.le_refl _) hf0
  obtain ⟨cs1, rfl, hs1⟩ := okWide_struct Try.underlying27 (hval 1 27 v1 rfl rfl)
  have k1 := h1
  have lt1 : ∀ x ∈ p1, x.block < W.heap.size := by obtain ⟨m, hm⟩ := k1; exact DataW.trod_lt m _ _ _ hm
  obtain ⟨fu1, hf1⟩ := h1
  obtain ⟨x1, hK1, hg1⟩ := (opField (B := fu1)).out (Nat.le_refl _) hf1
  clear hA0 hval0 hsz0
  have hF := setLaw_fx (E := E0) rfl x0 x1 hg0 hg1
  refine (row_calls hF trivial (vs := #[.agg cs0, .agg cs1]) rfl (fun x hx i v c hv hc => ?_)).mono fun e W' ⟨he, bel⟩ => ?_
  · match i with
    | 0 =>
      obtain rfl := Option.some.inj hv
      obtain rfl := Option.some.inj hc
      exact rel_struct hx (by simpa [Value.cells, AV.cells] using hK0) (Tb.pl _)
    | 1 =>
      obtain rfl := Option.some.inj hv
      obtain rfl := Option.some.inj hc
      exact rel_struct hx (by simpa [Value.cells, AV.cells] using hK1) (Fld.pl _)
    | i + 2 => simp at hv
  subst he
  exact ⟨_, rfl, _, _, _, [], _, [], hW', trodAll_mk1 (shut_bool Try.underlying4 _), (trodAll_cons_mk (Below.trod laidOut (by kernel_rfl) (of_decide_eq_true (by kernel_rfl)) k0 bel lt0) (trodAll_cons_mk (Below.trod laidOut (by kernel_rfl) (of_decide_eq_true (by kernel_rfl)) k1 bel lt1) trodAll_mk0)), rfl, bel.frame _, fun h => by cases h⟩
theorem over : Rows.fnExactSetFieldRow.holds Try.pinned (OpenSpec.ofChange Rows.fnExactSetFieldSpec) :=
  OpenClaim.holds_of_wide 3 Try.f3 rfl rfl rfl rfl rfl rfl rfl ⟨rfl, rfl, rfl, rfl, rfl⟩ rfl rfl rfl rfl rfl (by kernel_rfl) Try.func3 (by kernel_rfl)
    (of_decide_eq_true (by kernel_rfl)) (by unfold Func.isWrapper; first | (rw [if_pos (by decide +kernel)]; kernel_rfl) | (rw [if_neg (by decide +kernel)]; exact ⟨rfl, rfl⟩))
    (fun os started H enc _ => lifted os started H enc)
theorem proved : Rows.FnExactSetFieldSaid := over
#print axioms proved
end Go.Proofs.Ytgegcfhifojjiaa.fnExactSetField
namespace Go.Proofs.Ytgegcfhifojjiaa
/-- The row, under a short name, for the claim. -/
theorem fnExactSetField_holds : Rows.FnExactSetFieldSaid := fnExactSetField.proved
end Go.Proofs.Ytgegcfhifojjiaa
