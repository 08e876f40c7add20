/- TreeOk: the row. For all trees, the program's TreeOk returns what the reference's TreeOk returns, and leaves the tree as it was. No condition. -/
import Derived.Test.YtpopccnnjpdmlaaRows
import Derived.Test.YtpopccnnjpdmlaaTreL
import Derived.WalkKit
import Derived.ProofKit
import Derived.OpenShut
import Derived.ShutString
import Derived.ChangeOld
import Derived.Below
import Derived.SizedLaws
namespace Go.Proofs.Ytpopccnnjpdmlaa.Vm
open Go Go.RowKit Go.ChangeShapes Go.WideShapes
set_option linter.unusedVariables false
noncomputable def E0 : Env := ⟨Go.Proofs.Try.prog, fun _ => True, 0, fun _ _ _ _ h => h, fun _ _ => Nat.zero_le _, by kernel_rfl⟩
theorem opStr {B : Nat} : OpA B Go.Proofs.Try.prog 9 1 (fun s : ByteArray => .lit (.string s)) (fun s => s.size ≤ 9223372036854775807) := OpA.string Go.Proofs.Try.underlying9 (by kernel_rfl)
theorem opInt {B : Nat} : OpA B Go.Proofs.Try.prog 3 1 (fun i : Int => .lit (.int .i64 i)) (fun i => (Lit.int .i64 i).wf = true) := OpA.int Go.Proofs.Try.underlying3 (by kernel_rfl)
theorem opStrs {B : Nat} : OpA B Go.Proofs.Try.prog 22 1 (fun xs : List ByteArray => .sl ro 1 (xs.map fun s => .lit (.string s))) (GoodL fun s => s.size ≤ 9223372036854775807) := OpA.slice Go.Proofs.Try.underlying22 (by kernel_rfl) opStr (by decide)
theorem opTree : ∀ B : Nat, OpA B Go.Proofs.Try.prog 25 5 (fun x : Tr => .agg x.av) (Tr.goodN B)
  | 0 => ⟨by kernel_rfl, Tr.len, fun {H enc w base spare held fuel cs x} hB hx => by
      obtain ⟨_, _, hn, _⟩ := DataW.trod_struct Go.Proofs.Try.underlying25 hx
      omega⟩
  | B + 1 => by
    have kids : OpA B Go.Proofs.Try.prog 23 1 (fun xs : List Tr => .sl ro 5 (xs.map fun x => .agg x.av)) (GoodL (Tr.goodN B)) := OpA.slice Go.Proofs.Try.underlying23 (by kernel_rfl) (opTree B) (by decide)
    have seg := OpSeg.cons (B := B) (P := Go.Proofs.Try.prog) (f := ⟨ "Kind", 3, 0, false, "", "", 0⟩) rfl opInt (OpSeg.cons (f := ⟨ "N", 3, 1, false, "", "", 8⟩) rfl opInt (OpSeg.cons (f := ⟨ "S", 9, 2, false, "", "", 16⟩) rfl opStr (OpSeg.cons (f := ⟨ "Keys", 22, 3, false, "", "", 32⟩) rfl opStrs (OpSeg.one (f := ⟨ "Kids", 23, 4, false, "", "", 56⟩) rfl kids))))
    exact OpA.struct (B := B) (n := 5) (av := Tr.av) (G := Tr.goodN (B + 1)) Go.Proofs.Try.underlying25 (by kernel_rfl) (fun p : Int × Int × ByteArray × List ByteArray × List Tr => Tr.mk p.1 p.2.1 p.2.2.1 p.2.2.2.1 p.2.2.2.2) (fun p => Tr.av_eq _) (fun p h => ⟨h.2.2.1, h.2.2.2.1.1, h.2.2.2.1.2, h.2.2.2.2.1, h.2.2.2.2.2⟩) Tr.len seg
end Go.Proofs.Ytpopccnnjpdmlaa.Vm
namespace Go.Proofs.Ytpopccnnjpdmlaa.fnExactTreeOk
open Go.ChangeShapes Go.WideShapes Go.ChangeAt Go.RowKit
open Go.Proofs.Ytpopccnnjpdmlaa.Vm
set_option linter.unusedVariables false
theorem own : ownKnob Try.prog.godebug = none := by kernel_rfl
theorem laidOut : laidOutB Try.prog = true := by kernel_rfl
set_option maxRecDepth 100000 in
theorem lifted (os : Os) (started : os.Started) (H : Type) (enc : TypeId × Value → H) :
    ReturnsInHanded {} Try.checked os 3 .any (Rows.fnExactTreeOkSpec.pre6 enc Try.prog Try.f3 Rows.fnExactTreeOkRow.domain false) (Rows.fnExactTreeOkSpec.post enc Try.prog Try.f3 false true false false) := by
  refine returnsInHanded_of_change_sized (C := Try.checked) own started (by kernel_rfl) Try.func3
    (ChangeSpec.witness6 (enc := enc) (C := Try.checked) false ⟨#[], #[.agg #[.int .i64 0, .int .i64 0, .string ByteArray.empty, .slice none 0 0, .slice none 0 0]], []⟩ 8 (by kernel_rfl) (by kernel_rfl) (by kernel_rfl) (by kernel_rfl)) ?_
  intro W base args ds gs before hval0 hW hcnd hsz0 _
  have hval : ∀ (j : Nat) t v, Try.f3.params[j]? = some t → args[j]? = some v → Value.okWide Try.prog W .any base t v := hval0
  have hW' := hW
  obtain ⟨p, q, hA0, hV, rfl, hfz, hnd⟩ := hW
  have hA : DataW.TrodAll enc Try.prog W 0 (fun _ => true) true Try.f3.params.toList args.toList ds p := hA0
  rw [Try.params3] at hA hval
  obtain ⟨v0, vs0, d0, ds0, p0, q0, hargs, rfl, rfl, h0, r0⟩ := trodAll_cons hA
  obtain ⟨rfl, rfl, rfl⟩ := trodAll_nil r0
  obtain rfl : args = #[v0] := by cases args; simp_all
  obtain ⟨rfl, rfl⟩ := trodVars_none hV
  obtain ⟨cs0, rfl, hs0⟩ := okWide_struct Try.underlying25 (hval 0 25 v0 rfl rfl)
  have k0 := h0
  have lt0 : ∀ x ∈ p0, x.block < W.heap.size := by obtain ⟨m, hm⟩ := k0; exact DataW.trod_lt m _ _ _ hm
  obtain ⟨fu0, hf0⟩ := h0
  obtain ⟨x0, hK0, hg0⟩ := (opTree fu0).out (Nat.le_refl _) hf0
  clear hA0 hval0 hsz0
  have hF := law_fx (E := E0) rfl fu0 x0 hg0
  refine (row_calls hF trivial (vs := #[.agg cs0]) rfl (fun x hx i v c hv hc => ?_)).mono fun e W' ⟨he, bel⟩ => ?_
  · cases i with
    | zero =>
      obtain rfl := Option.some.inj hv
      obtain rfl := Option.some.inj hc
      exact rel_struct hx (by simpa [Value.cells, AV.cells] using hK0) (Tr.pl _)
    | succ i => simp at hv
  subst he
  exact ⟨_, rfl, _, _, _, [], _, [], hW', trodAll_mk1 (shut_bool Try.underlying4 _), (trodAll_cons_mk (Below.trod laidOut (by kernel_rfl) (of_decide_eq_true (by kernel_rfl)) k0 bel lt0) trodAll_mk0), rfl, bel.frame _, fun h => by cases h⟩
theorem over : Rows.fnExactTreeOkRow.holds Try.pinned (OpenSpec.ofChange Rows.fnExactTreeOkSpec) :=
  OpenClaim.holds_of_wide 3 Try.f3 rfl rfl rfl rfl rfl rfl rfl ⟨rfl, rfl, rfl, rfl, rfl⟩ rfl rfl rfl rfl rfl (by kernel_rfl) Try.func3 (by kernel_rfl)
    (of_decide_eq_true (by kernel_rfl)) (by unfold Func.isWrapper; first | (rw [if_pos (by decide +kernel)]; kernel_rfl) | (rw [if_neg (by decide +kernel)]; exact ⟨rfl, rfl⟩))
    (fun os started H enc _ => lifted os started H enc)
theorem proved : Rows.FnExactTreeOkSaid := over
#print axioms proved
end Go.Proofs.Ytpopccnnjpdmlaa.fnExactTreeOk
namespace Go.Proofs.Ytpopccnnjpdmlaa
/-- The row, under a short name, for the claim. -/
theorem fnExactTreeOk_holds : Rows.FnExactTreeOkSaid := fnExactTreeOk.proved
end Go.Proofs.Ytpopccnnjpdmlaa
