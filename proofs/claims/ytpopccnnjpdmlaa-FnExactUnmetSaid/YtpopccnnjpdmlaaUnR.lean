/- Unmet: the row. For all entries, the program's Unmet returns what the reference's Unmet returns, leaves the entries as they were, and owns what it returns. No condition. -/
import Derived.Test.YtpopccnnjpdmlaaRows
import Derived.Test.YtpopccnnjpdmlaaUnL
import Derived.WalkKit
import Derived.ProofKit
import Derived.OpenShut
import Derived.ShutString
import Derived.ChangeOld
import Derived.ChangeMaps
import Derived.Below
import Derived.SizedLaws
namespace Go.Proofs.Ytpopccnnjpdmlaa.Vm
open Go Go.RowKit Go.ChangeShapes Go.WideShapes
set_option linter.unusedVariables false
noncomputable def E0 : Env := ⟨Go.Proofs.Try.prog, fun _ => True, 0, fun _ _ _ _ h => h, fun _ _ => Nat.zero_le _, by kernel_rfl⟩
theorem opStr {B : Nat} : OpA B Go.Proofs.Try.prog 9 1 (fun s : ByteArray => .lit (.string s)) (fun s => s.size ≤ 9223372036854775807) := OpA.string Go.Proofs.Try.underlying9 (by kernel_rfl)
theorem opNeed {B : Nat} : OpA B Go.Proofs.Try.prog 149 2 (fun x : Nd => .agg x.av) Nd.good := by
  have seg := OpSeg.cons (B := B) (P := Go.Proofs.Try.prog) (f := ⟨ "Name", 9, 0, false, "", "", 0⟩) rfl opStr (OpSeg.one (f := ⟨ "Range", 9, 1, false, "", "", 16⟩) rfl opStr)
  exact (OpA.struct (B := B) (n := 2) (av := Nd.av) (G := Nd.good) Go.Proofs.Try.underlying149 (by kernel_rfl) (fun p : ByteArray × ByteArray => (⟨p.1, p.2⟩ : Nd)) (fun _ => rfl) (fun p h => ⟨h.1, h.2⟩) (fun _ => rfl) seg).less (Nat.le_succ _)
theorem opNeeds {B : Nat} : OpA B Go.Proofs.Try.prog 98 1 (fun xs : List Nd => .sl ro 2 (xs.map fun x => .agg x.av)) (GoodL Nd.good) := OpA.slice Go.Proofs.Try.underlying98 (by kernel_rfl) opNeed (by decide)
theorem opEntry {B : Nat} : OpA B Go.Proofs.Try.prog 100 5 (fun x : En => .agg x.av) En.good := by
  have seg := OpSeg.cons (B := B) (P := Go.Proofs.Try.prog) (f := ⟨ "Heads", 98, 0, false, "", "", 0⟩) rfl opNeeds (OpSeg.cons (f := ⟨ "Version", 9, 1, false, "", "", 24⟩) rfl opStr (OpSeg.cons (f := ⟨ "Resolved", 9, 2, false, "", "", 40⟩) rfl opStr (OpSeg.cons (f := ⟨ "Integrity", 9, 3, false, "", "", 56⟩) rfl opStr (OpSeg.one (f := ⟨ "Needs", 98, 4, false, "", "", 72⟩) rfl opNeeds))))
  exact (OpA.struct (B := B) (n := 5) (av := En.av) (G := En.good) Go.Proofs.Try.underlying100 (by kernel_rfl) (fun p : List Nd × ByteArray × ByteArray × ByteArray × List Nd => (⟨p.1, p.2.1, p.2.2.1, p.2.2.2.1, p.2.2.2.2⟩ : En)) (fun _ => rfl) (fun p h => ⟨⟨h.1.1, h.1.2⟩, h.2.1, h.2.2.1, h.2.2.2.1, h.2.2.2.2.1, h.2.2.2.2.2⟩) (fun _ => rfl) seg).less (Nat.le_succ _)
theorem opEntries {B : Nat} : OpA B Go.Proofs.Try.prog 51 1 (fun xs : List En => .sl ro 5 (xs.map fun x => .agg x.av)) (GoodL En.good) := OpA.slice Go.Proofs.Try.underlying51 (by kernel_rfl) opEntry (by decide)
end Go.Proofs.Ytpopccnnjpdmlaa.Vm
namespace Go.Proofs.Ytpopccnnjpdmlaa.fnExactUnmet
open Go.ChangeShapes Go.WideShapes Go.ChangeAt Go.RowKit
open Go.Proofs.Ytpopccnnjpdmlaa.Vm
set_option linter.unusedVariables false
theorem own : ownKnob Try.prog.godebug = none := by kernel_rfl
theorem laidOut : laidOutB Try.prog = true := by kernel_rfl
set_option maxRecDepth 100000 in
theorem lifted (os : Os) (started : os.Started) (H : Type) (enc : TypeId × Value → H) :
    ReturnsInHanded {} Try.checked os 5 .any (Rows.fnExactUnmetSpec.pre6 enc Try.prog Try.f5 Rows.fnExactUnmetRow.domain false) (Rows.fnExactUnmetSpec.post enc Try.prog Try.f5 false true false false) := by
  refine returnsInHanded_of_change_sized (C := Try.checked) own started (by kernel_rfl) Try.func5
    (ChangeSpec.witness6 (enc := enc) (C := Try.checked) false ⟨#[], #[(.slice none 0 0)], []⟩ 8 (by kernel_rfl) (by kernel_rfl) (by kernel_rfl) (by kernel_rfl)) ?_
  intro W base args ds gs before hval0 hW hcnd hsz0 _
  have hval : ∀ (j : Nat) t v, Try.f5.params[j]? = some t → args[j]? = some v → Value.okWide Try.prog W .any base t v := hval0
  have hW' := hW
  obtain ⟨p, q, hA0, hV, rfl, hfz, hnd⟩ := hW
  have hA : DataW.TrodAll enc Try.prog W 0 (fun _ => true) true Try.f5.params.toList args.toList ds p := hA0
  rw [Try.params5] at hA hval
  obtain ⟨v0, vs0, d0, ds0, p0, q0, hargs, rfl, rfl, h0, r0⟩ := trodAll_cons hA
  obtain ⟨rfl, rfl, rfl⟩ := trodAll_nil r0
  obtain rfl : args = #[v0] := by cases args; simp_all
  obtain ⟨rfl, rfl⟩ := trodVars_none hV
  obtain ⟨b0, n0, m0, rfl⟩ := okWide_slice Try.underlying51 (hval 0 51 v0 rfl rfl)
  have k0 := h0
  have lt0 : ∀ x ∈ p0, x.block < W.heap.size := by obtain ⟨m, hm⟩ := k0; exact DataW.trod_lt m _ _ _ hm
  obtain ⟨fu0, hf0⟩ := h0
  obtain ⟨x0, hK0, hg0⟩ := (opEntries (B := fu0)).out (Nat.le_refl _) hf0
  clear hA0 hval0 hsz0
  have hF := law_fx (E := E0) rfl x0 hg0.2 hg0.1
  refine (row_calls hF trivial (vs := #[.slice b0 n0 m0]) rfl (fun x hx i v c hv hc => ?_)).mono fun e W' ⟨he, bel⟩ => ?_
  · cases i with
    | zero =>
      obtain rfl := Option.some.inj hv
      obtain rfl := Option.some.inj hc
      exact rel_one' hx (by simpa [Value.cells] using hK0) (Pl_sl _ _)
    | succ i => simp at hv
  subst he
  exact ⟨_, rfl, _, _, _, [], _, [], hW', trodAll_mk1 (shut_bool Try.underlying4 _), (trodAll_cons_mk (Below.trod laidOut (by kernel_rfl) (of_decide_eq_true (by kernel_rfl)) k0 bel lt0) trodAll_mk0), rfl, bel.frame _, fun h => by cases h⟩
theorem over : Rows.fnExactUnmetRow.holds Try.pinned (OpenSpec.ofChange Rows.fnExactUnmetSpec) :=
  OpenClaim.holds_of_wide 5 Try.f5 rfl rfl rfl rfl rfl rfl rfl ⟨rfl, rfl, rfl, rfl, rfl⟩ rfl rfl rfl rfl rfl (by kernel_rfl) Try.func5 (by kernel_rfl)
    (of_decide_eq_true (by kernel_rfl)) (by unfold Func.isWrapper; first | (rw [if_pos (by decide +kernel)]; kernel_rfl) | (rw [if_neg (by decide +kernel)]; exact ⟨rfl, rfl⟩))
    (fun os started H enc _ => lifted os started H enc)
theorem proved : Rows.FnExactUnmetSaid := over
#print axioms proved
end Go.Proofs.Ytpopccnnjpdmlaa.fnExactUnmet
namespace Go.Proofs.Ytpopccnnjpdmlaa
/-- The row, under a short name, for the claim. -/
theorem fnExactUnmet_holds : Rows.FnExactUnmetSaid := fnExactUnmet.proved
end Go.Proofs.Ytpopccnnjpdmlaa
