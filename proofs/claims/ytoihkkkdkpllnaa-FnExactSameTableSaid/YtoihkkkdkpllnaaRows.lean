/-
  NARROWER THAN 'FOR EVERY INPUT', by the rows' own cells (each row's printed sentence says how): FnExactSameTree: loops · FnExactTreeOk: loops.
  DERIVED. THE GIVEN ROWS OF THIS SEAT. 12 by the template 'for every input the law returns true; each argument reads behind the call as it read before'; 0 by the template 'total and deterministic' (their statements: YtoihkkkdkpllnaaTotals.lean).
  GIVEN WITH THE SEED: the statements are not yours to turn. If you find one false, say at which input.
  Laid BY PROGRAM, IN A SANDBOX (cutbox-rows.mjs): the forced cells as the released guide's own fill.sh prints them over the translation b12479d516aaee13… (all of the seat's roots in one cut). By AI agents, Wed Nov 11 2026. No macro, syntax, notation, axiom, sorry.
-/
import Derived.Test.YtoihkkkdkpllnaaChecked
import GoSem.Claim
import GoSem.ClaimJoined
import GoSem.ClaimMapViews
import Derived.JoinedTies
import Derived.KernelRfl
namespace Go.Proofs.Ytoihkkkdkpllnaa
/- THE CELL 'sum', in the pinned program and in every row, IS THE sha256 OF THE DUMP (.gsa) THAT YtoihkkkdkpllnaaProg.lean LOADS. Nothing in Lean hashes anything: it is a label: what it is worth is what the hold of that sum in a sandbox is worth. -/
noncomputable def Try.pinned : Pinned := { name := "ytoihkkkdkpllnaa", sum := "b12479d516aaee13c75c2945d1dcde31564b1cbe45413d77fecb16bf011a6c4f", checked := Try.checked }
namespace Rows
def none {H : Type} : Left H := { results := [], args := [] }

/-- 'laws.FnExactKindName': WHATEVER THE INPUT: true; the input reads as it did. -/
def fnExactKindNameSpec : ChangeSpec := { name := "fnExactKindName", fn := fun _ => fun
  | [d] => { results := [.lit (.bool true)], args := [d] }
  | _ => none }
def fnExactKindNameRow : OpenClaim := { program := "ytoihkkkdkpllnaa", sum := "b12479d516aaee13c75c2945d1dcde31564b1cbe45413d77fecb16bf011a6c4f", func := "loop.example/g00445/laws.FnExactKindName", spec := "fnExactKindName", apart := false }
def FnExactKindNameSaid : Prop := fnExactKindNameRow.holds Try.pinned (OpenSpec.ofChange fnExactKindNameSpec)

/-- ITS FALSE NEIGHBOUR: 'it returns false'. Refute it at one input. -/
def fnExactKindNameWrong : ChangeSpec := { name := "fnExactKindName", fn := fun _ => fun
  | [d] => { results := [.lit (.bool false)], args := [d] }
  | _ => none }
def FnExactKindNameWrongFalsely : Prop := fnExactKindNameRow.holds Try.pinned (OpenSpec.ofChange fnExactKindNameWrong)

/-- 'laws.FnExactFormatName': WHATEVER THE INPUT: true; the input reads as it did. -/
def fnExactFormatNameSpec : ChangeSpec := { name := "fnExactFormatName", fn := fun _ => fun
  | [d] => { results := [.lit (.bool true)], args := [d] }
  | _ => none }
def fnExactFormatNameRow : OpenClaim := { program := "ytoihkkkdkpllnaa", sum := "b12479d516aaee13c75c2945d1dcde31564b1cbe45413d77fecb16bf011a6c4f", func := "loop.example/g00445/laws.FnExactFormatName", spec := "fnExactFormatName", apart := false }
def FnExactFormatNameSaid : Prop := fnExactFormatNameRow.holds Try.pinned (OpenSpec.ofChange fnExactFormatNameSpec)

/-- ITS FALSE NEIGHBOUR: 'it returns false'. Refute it at one input. -/
def fnExactFormatNameWrong : ChangeSpec := { name := "fnExactFormatName", fn := fun _ => fun
  | [d] => { results := [.lit (.bool false)], args := [d] }
  | _ => none }
def FnExactFormatNameWrongFalsely : Prop := fnExactFormatNameRow.holds Try.pinned (OpenSpec.ofChange fnExactFormatNameWrong)

/-- 'laws.FnExactFormatOf': WHATEVER THE INPUT: true; the input reads as it did. -/
def fnExactFormatOfSpec : ChangeSpec := { name := "fnExactFormatOf", fn := fun _ => fun
  | [d] => { results := [.lit (.bool true)], args := [d] }
  | _ => none }
def fnExactFormatOfRow : OpenClaim := { program := "ytoihkkkdkpllnaa", sum := "b12479d516aaee13c75c2945d1dcde31564b1cbe45413d77fecb16bf011a6c4f", func := "loop.example/g00445/laws.FnExactFormatOf", spec := "fnExactFormatOf", apart := false }
def FnExactFormatOfSaid : Prop := fnExactFormatOfRow.holds Try.pinned (OpenSpec.ofChange fnExactFormatOfSpec)

/-- ITS FALSE NEIGHBOUR: 'it returns false'. Refute it at one input. -/
def fnExactFormatOfWrong : ChangeSpec := { name := "fnExactFormatOf", fn := fun _ => fun
  | [d] => { results := [.lit (.bool false)], args := [d] }
  | _ => none }
def FnExactFormatOfWrongFalsely : Prop := fnExactFormatOfRow.holds Try.pinned (OpenSpec.ofChange fnExactFormatOfWrong)

/-- 'laws.FnExactSpdxId': WHATEVER THE INPUT: true; the input reads as it did. -/
def fnExactSpdxIdSpec : ChangeSpec := { name := "fnExactSpdxId", fn := fun _ => fun
  | [d] => { results := [.lit (.bool true)], args := [d] }
  | _ => none }
def fnExactSpdxIdRow : OpenClaim := { program := "ytoihkkkdkpllnaa", sum := "b12479d516aaee13c75c2945d1dcde31564b1cbe45413d77fecb16bf011a6c4f", func := "loop.example/g00445/laws.FnExactSpdxId", spec := "fnExactSpdxId", apart := false }
def FnExactSpdxIdSaid : Prop := fnExactSpdxIdRow.holds Try.pinned (OpenSpec.ofChange fnExactSpdxIdSpec)

/-- ITS FALSE NEIGHBOUR: 'it returns false'. Refute it at one input. -/
def fnExactSpdxIdWrong : ChangeSpec := { name := "fnExactSpdxId", fn := fun _ => fun
  | [d] => { results := [.lit (.bool false)], args := [d] }
  | _ => none }
def FnExactSpdxIdWrongFalsely : Prop := fnExactSpdxIdRow.holds Try.pinned (OpenSpec.ofChange fnExactSpdxIdWrong)

/-- 'laws.FnExactNeedText': WHATEVER THE INPUT: true; the input reads as it did. -/
def fnExactNeedTextSpec : ChangeSpec := { name := "fnExactNeedText", fn := fun _ => fun
  | [d] => { results := [.lit (.bool true)], args := [d] }
  | _ => none }
def fnExactNeedTextRow : OpenClaim := { program := "ytoihkkkdkpllnaa", sum := "b12479d516aaee13c75c2945d1dcde31564b1cbe45413d77fecb16bf011a6c4f", func := "loop.example/g00445/laws.FnExactNeedText", spec := "fnExactNeedText", apart := false }
def FnExactNeedTextSaid : Prop := fnExactNeedTextRow.holds Try.pinned (OpenSpec.ofChange fnExactNeedTextSpec)

/-- ITS FALSE NEIGHBOUR: 'it returns false'. Refute it at one input. -/
def fnExactNeedTextWrong : ChangeSpec := { name := "fnExactNeedText", fn := fun _ => fun
  | [d] => { results := [.lit (.bool false)], args := [d] }
  | _ => none }
def FnExactNeedTextWrongFalsely : Prop := fnExactNeedTextRow.holds Try.pinned (OpenSpec.ofChange fnExactNeedTextWrong)

/-- 'laws.FnExactPathText': WHATEVER THE INPUT: true; the input reads as it did. -/
def fnExactPathTextSpec : ChangeSpec := { name := "fnExactPathText", fn := fun _ => fun
  | [d] => { results := [.lit (.bool true)], args := [d] }
  | _ => none }
def fnExactPathTextRow : OpenClaim := { program := "ytoihkkkdkpllnaa", sum := "b12479d516aaee13c75c2945d1dcde31564b1cbe45413d77fecb16bf011a6c4f", func := "loop.example/g00445/laws.FnExactPathText", spec := "fnExactPathText", inPlace := ["internal/abi.NoEscape", "internal/bytealg.MakeNoZero"], apart := false }
def FnExactPathTextSaid : Prop := fnExactPathTextRow.holds Try.pinned (OpenSpec.ofChange fnExactPathTextSpec)

/-- ITS FALSE NEIGHBOUR: 'it returns false'. Refute it at one input. -/
def fnExactPathTextWrong : ChangeSpec := { name := "fnExactPathText", fn := fun _ => fun
  | [d] => { results := [.lit (.bool false)], args := [d] }
  | _ => none }
def FnExactPathTextWrongFalsely : Prop := fnExactPathTextRow.holds Try.pinned (OpenSpec.ofChange fnExactPathTextWrong)

/-- 'laws.FnExactLookup': WHATEVER THE INPUT: true; the input reads as it did. -/
def fnExactLookupSpec : ChangeSpec := { name := "fnExactLookup", fn := fun _ => fun
  | [d1, d2, d3] => { results := [.lit (.bool true)], args := [d1, d2, d3] }
  | _ => none }
def fnExactLookupRow : OpenClaim := { program := "ytoihkkkdkpllnaa", sum := "b12479d516aaee13c75c2945d1dcde31564b1cbe45413d77fecb16bf011a6c4f", func := "loop.example/g00445/laws.FnExactLookup", spec := "fnExactLookup", apart := false }
def FnExactLookupSaid : Prop := fnExactLookupRow.holds Try.pinned (OpenSpec.ofChange fnExactLookupSpec)

/-- ITS FALSE NEIGHBOUR: 'it returns false'. Refute it at one input. -/
def fnExactLookupWrong : ChangeSpec := { name := "fnExactLookup", fn := fun _ => fun
  | [d1, d2, d3] => { results := [.lit (.bool false)], args := [d1, d2, d3] }
  | _ => none }
def FnExactLookupWrongFalsely : Prop := fnExactLookupRow.holds Try.pinned (OpenSpec.ofChange fnExactLookupWrong)

/-- 'laws.FnExactFromSpdxId': WHATEVER THE INPUT: true; the input reads as it did. -/
def fnExactFromSpdxIdSpec : ChangeSpec := { name := "fnExactFromSpdxId", fn := fun _ => fun
  | [d] => { results := [.lit (.bool true)], args := [d] }
  | _ => none }
def fnExactFromSpdxIdRow : OpenClaim := { program := "ytoihkkkdkpllnaa", sum := "b12479d516aaee13c75c2945d1dcde31564b1cbe45413d77fecb16bf011a6c4f", func := "loop.example/g00445/laws.FnExactFromSpdxId", spec := "fnExactFromSpdxId", inPlace := ["internal/bytealg.IndexByteString"], apart := false }
def FnExactFromSpdxIdSaid : Prop := fnExactFromSpdxIdRow.holds Try.pinned (OpenSpec.ofChange fnExactFromSpdxIdSpec)

/-- ITS FALSE NEIGHBOUR: 'it returns false'. Refute it at one input. -/
def fnExactFromSpdxIdWrong : ChangeSpec := { name := "fnExactFromSpdxId", fn := fun _ => fun
  | [d] => { results := [.lit (.bool false)], args := [d] }
  | _ => none }
def FnExactFromSpdxIdWrongFalsely : Prop := fnExactFromSpdxIdRow.holds Try.pinned (OpenSpec.ofChange fnExactFromSpdxIdWrong)

/-- 'laws.FnExactSameTree': WHATEVER THE INPUT: true; the input reads as it did. -/
def fnExactSameTreeSpec : ChangeSpec := { name := "fnExactSameTree", fn := fun _ => fun
  | [d1, d2] => { results := [.lit (.bool true)], args := [d1, d2] }
  | _ => none }
def fnExactSameTreeRow : OpenClaim := { program := "ytoihkkkdkpllnaa", sum := "b12479d516aaee13c75c2945d1dcde31564b1cbe45413d77fecb16bf011a6c4f", func := "loop.example/g00445/laws.FnExactSameTree", spec := "fnExactSameTree", unfollowed := true, recurses := true, loops := true, apart := false }
def FnExactSameTreeSaid : Prop := fnExactSameTreeRow.holds Try.pinned (OpenSpec.ofChange fnExactSameTreeSpec)

/-- ITS FALSE NEIGHBOUR: 'it returns false'. Refute it at one input. -/
def fnExactSameTreeWrong : ChangeSpec := { name := "fnExactSameTree", fn := fun _ => fun
  | [d1, d2] => { results := [.lit (.bool false)], args := [d1, d2] }
  | _ => none }
def FnExactSameTreeWrongFalsely : Prop := fnExactSameTreeRow.holds Try.pinned (OpenSpec.ofChange fnExactSameTreeWrong)

/-- 'laws.FnExactResolve': WHATEVER THE INPUT: true; the input reads as it did. -/
def fnExactResolveSpec : ChangeSpec := { name := "fnExactResolve", fn := fun _ => fun
  | [d1, d2] => { results := [.lit (.bool true)], args := [d1, d2] }
  | _ => none }
def fnExactResolveRow : OpenClaim := { program := "ytoihkkkdkpllnaa", sum := "b12479d516aaee13c75c2945d1dcde31564b1cbe45413d77fecb16bf011a6c4f", func := "loop.example/g00445/laws.FnExactResolve", spec := "fnExactResolve", unfollowed := true, recurses := true, apart := false }
def FnExactResolveSaid : Prop := fnExactResolveRow.holds Try.pinned (OpenSpec.ofChange fnExactResolveSpec)

/-- ITS FALSE NEIGHBOUR: 'it returns false'. Refute it at one input. -/
def fnExactResolveWrong : ChangeSpec := { name := "fnExactResolve", fn := fun _ => fun
  | [d1, d2] => { results := [.lit (.bool false)], args := [d1, d2] }
  | _ => none }
def FnExactResolveWrongFalsely : Prop := fnExactResolveRow.holds Try.pinned (OpenSpec.ofChange fnExactResolveWrong)

/-- 'laws.FnExactSameTable': WHATEVER THE INPUT: true; the input reads as it did. -/
def fnExactSameTableSpec : ChangeSpec := { name := "fnExactSameTable", fn := fun _ => fun
  | [d1, d2] => { results := [.lit (.bool true)], args := [d1, d2] }
  | _ => none }
def fnExactSameTableRow : OpenClaim := { program := "ytoihkkkdkpllnaa", sum := "b12479d516aaee13c75c2945d1dcde31564b1cbe45413d77fecb16bf011a6c4f", func := "loop.example/g00445/laws.FnExactSameTable", spec := "fnExactSameTable", unfollowed := true, recurses := true, apart := false }
def FnExactSameTableSaid : Prop := fnExactSameTableRow.holds Try.pinned (OpenSpec.ofChange fnExactSameTableSpec)

/-- ITS FALSE NEIGHBOUR: 'it returns false'. Refute it at one input. -/
def fnExactSameTableWrong : ChangeSpec := { name := "fnExactSameTable", fn := fun _ => fun
  | [d1, d2] => { results := [.lit (.bool false)], args := [d1, d2] }
  | _ => none }
def FnExactSameTableWrongFalsely : Prop := fnExactSameTableRow.holds Try.pinned (OpenSpec.ofChange fnExactSameTableWrong)

/-- 'laws.FnExactTreeOk': WHATEVER THE INPUT: true; the input reads as it did. -/
def fnExactTreeOkSpec : ChangeSpec := { name := "fnExactTreeOk", fn := fun _ => fun
  | [d] => { results := [.lit (.bool true)], args := [d] }
  | _ => none }
def fnExactTreeOkRow : OpenClaim := { program := "ytoihkkkdkpllnaa", sum := "b12479d516aaee13c75c2945d1dcde31564b1cbe45413d77fecb16bf011a6c4f", func := "loop.example/g00445/laws.FnExactTreeOk", spec := "fnExactTreeOk", recurses := true, loops := true, apart := false }
def FnExactTreeOkSaid : Prop := fnExactTreeOkRow.holds Try.pinned (OpenSpec.ofChange fnExactTreeOkSpec)

/-- ITS FALSE NEIGHBOUR: 'it returns false'. Refute it at one input. -/
def fnExactTreeOkWrong : ChangeSpec := { name := "fnExactTreeOk", fn := fun _ => fun
  | [d] => { results := [.lit (.bool false)], args := [d] }
  | _ => none }
def FnExactTreeOkWrongFalsely : Prop := fnExactTreeOkRow.holds Try.pinned (OpenSpec.ofChange fnExactTreeOkWrong)

/- THE SECOND FORM. 'bulk': how many values and letters a reading holds, each counted each time it is reached (what is shared counts as often as it is met; a slice's spare places count too). A statement '..UptoSaid' is the law's where the arguments, and the package variables that the reading takes, are together of bulk at most 1048576: NARROWER than '..Said'. Prove '..Said' where nothing that the law and all that it calls make is longer than what came in: it says more and counts as full. Else prove '..UptoSaid'. A law counts once. -/
mutual
def uptoBulk {H : Type} : DataW H → Nat
  | .lit (.string bytes) => bytes.length + 1
  | .lit _ => 1
  | .nil => 1
  | .ptr d => uptoBulk d + 1
  | .slice elems spare => uptoBulkAll elems + uptoBulkAll spare + 1
  | .agg parts => uptoBulkAll parts + 1
  | .iface _ d => uptoBulk d + 1
  | .map entries => uptoBulkEntries entries + 1
  | .held _ => 1
def uptoBulkAll {H : Type} : List (DataW H) → Nat
  | [] => 0
  | d :: r => uptoBulk d + uptoBulkAll r
def uptoBulkEntries {H : Type} : List (Lit × DataW H) → Nat
  | [] => 0
  | x :: r => uptoBulkEntry x + uptoBulkEntries r
def uptoBulkEntry {H : Type} : Lit × DataW H → Nat
  | (.string bytes, d) => bytes.length + uptoBulk d + 1
  | (_, d) => uptoBulk d + 1
 end
def uptoSmall : (H : Type) → List (DataW H) → Bool := fun _ ds => decide (uptoBulkAll ds ≤ 1048576)
def OpenSpec.upto (s : _root_.Go.ChangeSpec) : _root_.Go.OpenSpec := { _root_.Go.OpenSpec.ofChange s with cond := some uptoSmall }

/-- 'laws.FnExactKindName', WHERE WHAT IT READS IS OF BULK AT MOST 1048576: true; the input reads as it did. -/
def fnExactKindNameUptoRow : OpenClaim := { program := "ytoihkkkdkpllnaa", sum := "b12479d516aaee13c75c2945d1dcde31564b1cbe45413d77fecb16bf011a6c4f", func := "loop.example/g00445/laws.FnExactKindName", spec := "fnExactKindName", apart := false, narrowed := true }
def FnExactKindNameUptoSaid : Prop := fnExactKindNameUptoRow.holds Try.pinned (OpenSpec.upto fnExactKindNameSpec)

/-- 'laws.FnExactFormatName', WHERE WHAT IT READS IS OF BULK AT MOST 1048576: true; the input reads as it did. -/
def fnExactFormatNameUptoRow : OpenClaim := { program := "ytoihkkkdkpllnaa", sum := "b12479d516aaee13c75c2945d1dcde31564b1cbe45413d77fecb16bf011a6c4f", func := "loop.example/g00445/laws.FnExactFormatName", spec := "fnExactFormatName", apart := false, narrowed := true }
def FnExactFormatNameUptoSaid : Prop := fnExactFormatNameUptoRow.holds Try.pinned (OpenSpec.upto fnExactFormatNameSpec)

/-- 'laws.FnExactFormatOf', WHERE WHAT IT READS IS OF BULK AT MOST 1048576: true; the input reads as it did. -/
def fnExactFormatOfUptoRow : OpenClaim := { program := "ytoihkkkdkpllnaa", sum := "b12479d516aaee13c75c2945d1dcde31564b1cbe45413d77fecb16bf011a6c4f", func := "loop.example/g00445/laws.FnExactFormatOf", spec := "fnExactFormatOf", apart := false, narrowed := true }
def FnExactFormatOfUptoSaid : Prop := fnExactFormatOfUptoRow.holds Try.pinned (OpenSpec.upto fnExactFormatOfSpec)

/-- 'laws.FnExactSpdxId', WHERE WHAT IT READS IS OF BULK AT MOST 1048576: true; the input reads as it did. -/
def fnExactSpdxIdUptoRow : OpenClaim := { program := "ytoihkkkdkpllnaa", sum := "b12479d516aaee13c75c2945d1dcde31564b1cbe45413d77fecb16bf011a6c4f", func := "loop.example/g00445/laws.FnExactSpdxId", spec := "fnExactSpdxId", apart := false, narrowed := true }
def FnExactSpdxIdUptoSaid : Prop := fnExactSpdxIdUptoRow.holds Try.pinned (OpenSpec.upto fnExactSpdxIdSpec)

/-- 'laws.FnExactNeedText', WHERE WHAT IT READS IS OF BULK AT MOST 1048576: true; the input reads as it did. -/
def fnExactNeedTextUptoRow : OpenClaim := { program := "ytoihkkkdkpllnaa", sum := "b12479d516aaee13c75c2945d1dcde31564b1cbe45413d77fecb16bf011a6c4f", func := "loop.example/g00445/laws.FnExactNeedText", spec := "fnExactNeedText", apart := false, narrowed := true }
def FnExactNeedTextUptoSaid : Prop := fnExactNeedTextUptoRow.holds Try.pinned (OpenSpec.upto fnExactNeedTextSpec)

/-- 'laws.FnExactPathText', WHERE WHAT IT READS IS OF BULK AT MOST 1048576: true; the input reads as it did. -/
def fnExactPathTextUptoRow : OpenClaim := { program := "ytoihkkkdkpllnaa", sum := "b12479d516aaee13c75c2945d1dcde31564b1cbe45413d77fecb16bf011a6c4f", func := "loop.example/g00445/laws.FnExactPathText", spec := "fnExactPathText", inPlace := ["internal/abi.NoEscape", "internal/bytealg.MakeNoZero"], apart := false, narrowed := true }
def FnExactPathTextUptoSaid : Prop := fnExactPathTextUptoRow.holds Try.pinned (OpenSpec.upto fnExactPathTextSpec)

/-- 'laws.FnExactLookup', WHERE WHAT IT READS IS OF BULK AT MOST 1048576: true; the input reads as it did. -/
def fnExactLookupUptoRow : OpenClaim := { program := "ytoihkkkdkpllnaa", sum := "b12479d516aaee13c75c2945d1dcde31564b1cbe45413d77fecb16bf011a6c4f", func := "loop.example/g00445/laws.FnExactLookup", spec := "fnExactLookup", apart := false, narrowed := true }
def FnExactLookupUptoSaid : Prop := fnExactLookupUptoRow.holds Try.pinned (OpenSpec.upto fnExactLookupSpec)

/-- 'laws.FnExactFromSpdxId', WHERE WHAT IT READS IS OF BULK AT MOST 1048576: true; the input reads as it did. -/
def fnExactFromSpdxIdUptoRow : OpenClaim := { program := "ytoihkkkdkpllnaa", sum := "b12479d516aaee13c75c2945d1dcde31564b1cbe45413d77fecb16bf011a6c4f", func := "loop.example/g00445/laws.FnExactFromSpdxId", spec := "fnExactFromSpdxId", inPlace := ["internal/bytealg.IndexByteString"], apart := false, narrowed := true }
def FnExactFromSpdxIdUptoSaid : Prop := fnExactFromSpdxIdUptoRow.holds Try.pinned (OpenSpec.upto fnExactFromSpdxIdSpec)

/-- 'laws.FnExactSameTree', WHERE WHAT IT READS IS OF BULK AT MOST 1048576: true; the input reads as it did. -/
def fnExactSameTreeUptoRow : OpenClaim := { program := "ytoihkkkdkpllnaa", sum := "b12479d516aaee13c75c2945d1dcde31564b1cbe45413d77fecb16bf011a6c4f", func := "loop.example/g00445/laws.FnExactSameTree", spec := "fnExactSameTree", unfollowed := true, recurses := true, loops := true, apart := false, narrowed := true }
def FnExactSameTreeUptoSaid : Prop := fnExactSameTreeUptoRow.holds Try.pinned (OpenSpec.upto fnExactSameTreeSpec)

/-- 'laws.FnExactResolve', WHERE WHAT IT READS IS OF BULK AT MOST 1048576: true; the input reads as it did. -/
def fnExactResolveUptoRow : OpenClaim := { program := "ytoihkkkdkpllnaa", sum := "b12479d516aaee13c75c2945d1dcde31564b1cbe45413d77fecb16bf011a6c4f", func := "loop.example/g00445/laws.FnExactResolve", spec := "fnExactResolve", unfollowed := true, recurses := true, apart := false, narrowed := true }
def FnExactResolveUptoSaid : Prop := fnExactResolveUptoRow.holds Try.pinned (OpenSpec.upto fnExactResolveSpec)

/-- 'laws.FnExactSameTable', WHERE WHAT IT READS IS OF BULK AT MOST 1048576: true; the input reads as it did. -/
def fnExactSameTableUptoRow : OpenClaim := { program := "ytoihkkkdkpllnaa", sum := "b12479d516aaee13c75c2945d1dcde31564b1cbe45413d77fecb16bf011a6c4f", func := "loop.example/g00445/laws.FnExactSameTable", spec := "fnExactSameTable", unfollowed := true, recurses := true, apart := false, narrowed := true }
def FnExactSameTableUptoSaid : Prop := fnExactSameTableUptoRow.holds Try.pinned (OpenSpec.upto fnExactSameTableSpec)

/-- 'laws.FnExactTreeOk', WHERE WHAT IT READS IS OF BULK AT MOST 1048576: true; the input reads as it did. -/
def fnExactTreeOkUptoRow : OpenClaim := { program := "ytoihkkkdkpllnaa", sum := "b12479d516aaee13c75c2945d1dcde31564b1cbe45413d77fecb16bf011a6c4f", func := "loop.example/g00445/laws.FnExactTreeOk", spec := "fnExactTreeOk", recurses := true, loops := true, apart := false, narrowed := true }
def FnExactTreeOkUptoSaid : Prop := fnExactTreeOkUptoRow.holds Try.pinned (OpenSpec.upto fnExactTreeOkSpec)

end Rows
end Go.Proofs.Ytoihkkkdkpllnaa
