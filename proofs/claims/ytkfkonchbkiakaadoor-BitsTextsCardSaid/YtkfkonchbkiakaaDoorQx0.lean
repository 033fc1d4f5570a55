-- Written by wip/tools/pp.py (the kit's print.py, with functions proved by hand taken as given)
import Derived.Test.YtkfkonchbkiakaaDoorProg
import Derived.Below
import Derived.Deep.Draws
import Derived.Deep.AppendLies
import Derived.Maps.AppendAt
import Derived.OwnWalk
import Derived.Laws.BytesArg
import Derived.Laws.MakeOwn
import Derived.Laws.OwnMore
import Derived.Deep.OwnRows
import Derived.Tactics
import Derived.Lib.ConvBytes
import Derived.Laws.Slices
import Derived.WalkKit
import Derived.KernelRfl
import Derived.RowKit3
import Derived.Deep.LoopGhost
import Derived.Deep.QuietTactic
import Derived.BigQuiet
import Derived.WideLaws
import Derived.Deep.DeepCutAuto
import Derived.Deep.CutBlock
import Derived.Deep.RegionHeld3
import Derived.Laws.Rows
import Derived.Lib.AppendStr
import Derived.ArgAppend
import Derived.Laws.IdiomCopy
import Derived.OrdersHeld
import Derived.Laws.BitsLemmas
import Derived.RowKit
import Derived.Test.YtkfkonchbkiakaaDoorWWords
import Derived.Test.YtkfkonchbkiakaaDoorWLast
import Derived.Test.YtkfkonchbkiakaaDoorWTab
import Derived.Test.YtkfkonchbkiakaaDoorWFour
import Derived.Test.YtkfkonchbkiakaaDoorWQPut
import Derived.Test.YtkfkonchbkiakaaDoorWApart
import Derived.Test.YtkfkonchbkiakaaDoorWArr
import Derived.Test.YtkfkonchbkiakaaDoorWZeros
import Derived.Test.YtkfkonchbkiakaaDoorWFoot
import Derived.Test.YtkfkonchbkiakaaDoorWKept
import Derived.Test.YtkfkonchbkiakaaDoorWShare
import Derived.Test.YtkfkonchbkiakaaDoorWN
import Derived.Test.YtkfkonchbkiakaaDoorWFootNe
import Derived.Test.YtkfkonchbkiakaaDoorWAt
import Derived.Test.YtkfkonchbkiakaaDoorWEqStruct
import Derived.Test.YtkfkonchbkiakaaDoorWRepsOne
import Derived.Test.YtkfkonchbkiakaaDoorWInv
import Derived.Test.YtkfkonchbkiakaaDoorWInvWords
import Derived.Test.YtkfkonchbkiakaaDoorWGuard
import Derived.Test.YtkfkonchbkiakaaDoorWNEv
import Derived.Test.YtkfkonchbkiakaaDoorWMore
import Derived.Test.YtkfkonchbkiakaaDoorXB
namespace Go.Proofs.YtkfkonchbkiakaaDoor.Q
open Go.RowKit Go.Proofs.YtkfkonchbkiakaaDoorW.PrintWords Go.Proofs.YtkfkonchbkiakaaDoorW.PrintLast Go.Proofs.YtkfkonchbkiakaaDoorW.PrintMore
open Go.Proofs.YtkfkonchbkiakaaDoor.X
attribute [local go_sem] signed_u64 signed_u32 signed_u8 max_u64 max_u32 max_u8
attribute [local go_sem] max2_int min2_int max_two min_two max_three min_three max_four min_four   -- for this text's walks alone
set_option linter.unusedVariables false
set_option linter.unusedSimpArgs false



def errW : Option Int → Value
  | none => .nilIface
  | some c => .iface 0 (.int .i64 c)
theorem errW_none : errW none = .nilIface := rfl
theorem errW_some (c : Int) : errW (some c) = .iface 0 (.int .i64 c) := rfl

theorem info5 : (Tryd.prog.info? 5).map (fun i => (i.zero, i.size, i.bytes)) = some (some (.int .u8 0), 1, 1) := by kernel_rfl
-- the values' own types

end Go.Proofs.YtkfkonchbkiakaaDoor.Q
