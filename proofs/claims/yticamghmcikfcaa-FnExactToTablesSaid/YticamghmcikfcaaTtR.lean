/- ToTables: the row. For all graphs, the program's ToTables returns what the reference's ToTables returns, leaves the graph as it was, and owns what it returns. No condition. -/
import Derived.Test.YticamghmcikfcaaRows
import Derived.Test.YticamghmcikfcaaTtL
import Derived.WalkKit
import Derived.ProofKit
import Derived.OpenShut
import Derived.ChangeOld
import Derived.ChangeMaps
import Derived.Below
import Derived.SizedLaws
namespace Go.Proofs.Yticamghmcikfcaa.Vm
open Go Go.RowKit Go.ChangeShapes Go.WideShapes
set_option linter.unusedVariables false
noncomputable def E0 : Env := ⟨Go.Proofs.Try.prog, fun _ => True, 0, fun _ _ _ _ h => h, fun _ _ => Nat.zero_le _, by kernel_rfl⟩
theorem opStr {B : Nat} : OpA B Go.Proofs.Try.prog 9 1 (fun s : ByteArray => .lit (.string s)) (fun s => s.size ≤ 9223372036854775807) := OpA.string Go.Proofs.Try.underlying9 (by kernel_rfl)
theorem opBool {B : Nat} : OpA B Go.Proofs.Try.prog 4 1 (fun b : Bool => .lit (.bool b)) (fun _ => True) := OpA.bool Go.Proofs.Try.underlying4 (by kernel_rfl)
theorem opStrs {B : Nat} : OpA B Go.Proofs.Try.prog 22 1 (fun xs : List ByteArray => .sl ro 1 (xs.map fun s => .lit (.string s))) (GoodL fun s => s.size ≤ 9223372036854775807) := OpA.slice Go.Proofs.Try.underlying22 (by kernel_rfl) opStr (by decide)
theorem opSum {B : Nat} : OpA B Go.Proofs.Try.prog 87 2 (fun x : Sm => .agg x.av) Sm.good := by
  have seg := OpSeg.cons (B := B) (P := Go.Proofs.Try.prog) (f := ⟨ "Alg", 9, 0, false, "", "", 0⟩) rfl opStr (OpSeg.one (f := ⟨ "Bytes", 9, 1, false, "", "", 16⟩) rfl opStr)
  exact (OpA.struct (B := B) (n := 2) (av := Sm.av) (G := Sm.good) Go.Proofs.Try.underlying87 (by kernel_rfl) (fun p : ByteArray × ByteArray => (⟨p.1, p.2⟩ : Sm)) (fun _ => rfl) (fun p h => ⟨h.1, h.2⟩) (fun _ => rfl) seg).less (Nat.le_succ _)
theorem opSums {B : Nat} : OpA B Go.Proofs.Try.prog 64 1 (fun xs : List Sm => .sl ro 2 (xs.map fun x => .agg x.av)) (GoodL Sm.good) := OpA.slice Go.Proofs.Try.underlying64 (by kernel_rfl) opSum (by decide)
theorem opPack {B : Nat} : OpA B Go.Proofs.Try.prog 66 6 (fun x : Pk => .agg x.av) Pk.good := by
  have seg := OpSeg.cons (B := B) (P := Go.Proofs.Try.prog) (f := ⟨ "Name", 9, 0, false, "", "", 0⟩) rfl opStr (OpSeg.cons (f := ⟨ "Version", 9, 1, false, "", "", 16⟩) rfl opStr (OpSeg.cons (f := ⟨ "Source", 9, 2, false, "", "", 32⟩) rfl opStr (OpSeg.cons (f := ⟨ "Sums", 64, 3, false, "", "", 48⟩) rfl opSums (OpSeg.cons (f := ⟨ "Dev", 4, 4, false, "", "", 72⟩) rfl opBool (OpSeg.one (f := ⟨ "Needs", 22, 5, false, "", "", 80⟩) rfl opStrs)))))
  exact (OpA.struct (B := B) (n := 6) (av := Pk.av) (G := Pk.good) Go.Proofs.Try.underlying66 (by kernel_rfl) (fun p : ByteArray × ByteArray × ByteArray × List Sm × Bool × List ByteArray => (⟨p.1, p.2.1, p.2.2.1, p.2.2.2.1, p.2.2.2.2.1, p.2.2.2.2.2⟩ : Pk)) (fun _ => rfl) (fun p h => ⟨h.1, h.2.1, h.2.2.1, ⟨h.2.2.2.1.1, h.2.2.2.1.2⟩, trivial, ⟨h.2.2.2.2.2.1, h.2.2.2.2.2.2⟩⟩) (fun _ => rfl) seg).less (Nat.le_succ _)
theorem opPacks {B : Nat} : OpA B Go.Proofs.Try.prog 23 1 (fun xs : List Pk => .sl ro 6 (xs.map fun x => .agg x.av)) (GoodL Pk.good) := OpA.slice Go.Proofs.Try.underlying23 (by kernel_rfl) opPack (by decide)
theorem opGraph {B : Nat} : OpA B Go.Proofs.Try.prog 25 2 (fun x : Gr => .agg x.av) Gr.good := by
  have seg := OpSeg.cons (B := B) (P := Go.Proofs.Try.prog) (f := ⟨ "Top", 22, 0, false, "", "", 0⟩) rfl opStrs (OpSeg.one (f := ⟨ "Packs", 23, 1, false, "", "", 24⟩) rfl opPacks)
  exact (OpA.struct (B := B) (n := 2) (av := Gr.av) (G := Gr.good) Go.Proofs.Try.underlying25 (by kernel_rfl) (fun p : List ByteArray × List Pk => (⟨p.1, p.2⟩ : Gr)) (fun _ => rfl) (fun p h => ⟨⟨h.1.1, h.1.2⟩, h.2.1, h.2.2⟩) (fun _ => rfl) seg).less (Nat.le_succ _)
end Go.Proofs.Yticamghmcikfcaa.Vm
namespace Go.Proofs.Yticamghmcikfcaa.fnExactToTables
open Go.ChangeShapes Go.WideShapes Go.ChangeAt Go.RowKit
open Go.Proofs.Yticamghmcikfcaa.Vm
set_option linter.unusedVariables false
theorem own : ownKnob Try.prog.godebug = none := by kernel_rfl
theorem laidOut : laidOutB Try.prog = true := by kernel_rfl
set_option maxRecDepth 100000 in
theorem lifted (os : Os) (started : os.Started) (H : Type) (enc : TypeId × Value → H) :
    ReturnsInHanded {} Try.checked os 3 .any (Rows.fnExactToTablesSpec.pre6 enc Try.prog Try.f3 Rows.fnExactToTablesRow.domain false) (Rows.fnExactToTablesSpec.post enc Try.prog Try.f3 false true false false) := by
  refine returnsInHanded_of_change_sized (C := Try.checked) own started (by kernel_rfl) Try.func3
    (ChangeSpec.witness6 (enc := enc) (C := Try.checked) false ⟨#[], #[.agg #[.slice none 0 0, .slice none 0 0]], []⟩ 8 (by kernel_rfl) (by kernel_rfl) (by kernel_rfl) (by kernel_rfl)) ?_
  intro W base args ds gs before hval0 hW hcnd hsz0 _
  have hval : ∀ (j : Nat) t v, Try.f3.params[j]? = some t → args[j]? = some v → Value.okWide Try.prog W .any base t v := hval0
  have hW' := hW
  obtain ⟨p, q, hA0, hV, rfl, hfz, hnd⟩ := hW
  have hA : DataW.TrodAll enc Try.prog W 0 (fun _ => true) true Try.f3.params.toList args.toList ds p := hA0
  rw [Try.params3] at hA hval
  obtain ⟨v0, vs0, d0, ds0, p0, q0, hargs, rfl, rfl, h0, r0⟩ := trodAll_cons hA
  obtain ⟨rfl, rfl, rfl⟩ := trodAll_nil r0
  obtain rfl : args = #[v0] := by cases args; simp_all
  obtain ⟨rfl, rfl⟩ := trodVars_none hV
  obtain ⟨cs0, rfl, hs0⟩ := okWide_struct Try.underlying25 (hval 0 25 v0 rfl rfl)
  have k0 := h0
  have lt0 : ∀ x ∈ p0, x.block < W.heap.size := by obtain ⟨m, hm⟩ := k0; exact DataW.trod_lt m _ _ _ hm
  obtain ⟨fu0, hf0⟩ := h0
  obtain ⟨x0, hK0, hg0⟩ := (opGraph (B := fu0)).out (Nat.le_refl _) hf0
  clear hA0 hval0 hsz0
  have hF := tablesLaw_fx (E := E0) rfl x0 hg0
  refine (row_calls hF trivial (vs := #[.agg cs0]) rfl (fun x hx i v c hv hc => ?_)).mono fun e W' ⟨he, bel⟩ => ?_
  · match i with
    | 0 =>
      obtain rfl := Option.some.inj hv
      obtain rfl := Option.some.inj hc
      exact rel_struct hx (by simpa [Value.cells, AV.cells] using hK0) (Gr.pl _)
    | i + 1 => simp at hv
  subst he
  exact ⟨_, rfl, _, _, _, [], _, [], hW', trodAll_mk1 (shut_bool Try.underlying4 _), (trodAll_cons_mk (Below.trod laidOut (by kernel_rfl) (of_decide_eq_true (by kernel_rfl)) k0 bel lt0) trodAll_mk0), rfl, bel.frame _, fun h => by cases h⟩
theorem over : Rows.fnExactToTablesRow.holds Try.pinned (OpenSpec.ofChange Rows.fnExactToTablesSpec) :=
  OpenClaim.holds_of_wide 3 Try.f3 rfl rfl rfl rfl rfl rfl rfl ⟨rfl, rfl, rfl, rfl, rfl⟩ rfl rfl rfl rfl rfl (by kernel_rfl) Try.func3 (by kernel_rfl)
    (of_decide_eq_true (by kernel_rfl)) (by unfold Func.isWrapper; first | (rw [if_pos (by decide +kernel)]; kernel_rfl) | (rw [if_neg (by decide +kernel)]; exact ⟨rfl, rfl⟩))
    (fun os started H enc _ => lifted os started H enc)
theorem proved : Rows.FnExactToTablesSaid := over
#print axioms proved
end Go.Proofs.Yticamghmcikfcaa.fnExactToTables
namespace Go.Proofs.Yticamghmcikfcaa
/-- The row, under a short name, for the claim. -/
theorem fnExactToTables_holds : Rows.FnExactToTablesSaid := fnExactToTables.proved
end Go.Proofs.Yticamghmcikfcaa
