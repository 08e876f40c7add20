-- laid by a program of this session, out of the translation
import Derived.Test.YtoihkkkdkpllnaaProg
import Derived.Below
import Derived.Deep.Draws
import Derived.Deep.AppendLies
import Derived.Maps.AppendAt
import Derived.OwnWalk
import Derived.Laws.BytesArg
import Derived.Laws.MakeOwn
import Derived.Laws.OwnMore
import Derived.Deep.OwnRows
import Derived.Tactics
import Derived.Lib.ConvBytes
import Derived.Laws.Slices
import Derived.WalkKit
import Derived.KernelRfl
import Derived.RowKit3
import Derived.Deep.LoopGhost
import Derived.Deep.QuietTactic
import Derived.BigQuiet
import Derived.WideLaws
import Derived.Deep.DeepCutAuto
import Derived.Deep.CutBlock
import Derived.Deep.RegionHeld3
import Derived.Laws.Rows
import Derived.Lib.AppendStr
import Derived.ArgAppend
import Derived.Laws.IdiomCopy
import Derived.OrdersHeld
import Derived.Laws.BitsLemmas
import Derived.RowKit
import Derived.Test.YtoihkkkdkpllnaaShelf
import Derived.Test.YtoihkkkdkpllnaaWWords
import Derived.Test.YtoihkkkdkpllnaaWLast
import Derived.Test.YtoihkkkdkpllnaaWTab
import Derived.Test.YtoihkkkdkpllnaaWFour
import Derived.Test.YtoihkkkdkpllnaaWQPut
import Derived.Test.YtoihkkkdkpllnaaWApart
import Derived.Test.YtoihkkkdkpllnaaWArr
import Derived.Test.YtoihkkkdkpllnaaWZeros
import Derived.Test.YtoihkkkdkpllnaaWFoot
import Derived.Test.YtoihkkkdkpllnaaWKept
import Derived.Test.YtoihkkkdkpllnaaWShare
import Derived.Test.YtoihkkkdkpllnaaWN
import Derived.Test.YtoihkkkdkpllnaaWFootNe
import Derived.Test.YtoihkkkdkpllnaaWAt
import Derived.Test.YtoihkkkdkpllnaaWEqStruct
import Derived.Test.YtoihkkkdkpllnaaWRepsOne
import Derived.Test.YtoihkkkdkpllnaaWInv
import Derived.Test.YtoihkkkdkpllnaaWInvWords
import Derived.Test.YtoihkkkdkpllnaaWGuard
import Derived.Test.YtoihkkkdkpllnaaWNEv
import Derived.Test.YtoihkkkdkpllnaaWMore
import Derived.Test.YtoihkkkdkpllnaaAid
import Derived.Test.YtoihkkkdkpllnaaExtAid
import Derived.Test.YtoihkkkdkpllnaaOpen
namespace Go.Proofs.Ytoihkkkdkpllnaa.PFnExactFromSpdxId
open Go.RowKit Go.Proofs.YtoihkkkdkpllnaaW.PrintWords Go.Proofs.YtoihkkkdkpllnaaW.PrintLast Go.Proofs.YtoihkkkdkpllnaaW.PrintMore
attribute [local go_sem] max2_int min2_int max_two min_two max_three min_three max_four min_four   -- for this text's walks alone
set_option linter.unusedVariables false
set_option linter.unusedSimpArgs false



def errW : Option Int → Value
  | none => .nilIface
  | some c => .iface 0 (.int .i64 c)
theorem errW_none : errW none = .nilIface := rfl
theorem errW_some (c : Int) : errW (some c) = .iface 0 (.int .i64 c) := rfl

theorem info5 : (Try.prog.info? 5).map (fun i => (i.zero, i.size, i.bytes)) = some (some (.int .u8 0), 1, 1) := by kernel_rfl
-- the values' own types

end Go.Proofs.Ytoihkkkdkpllnaa.PFnExactFromSpdxId
