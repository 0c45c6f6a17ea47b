-- WRITTEN BY A PROGRAM FOR THIS CLAIM (NOTES.md tells how)
import Derived.Test.YtgnonaokinfaeaaProg
import Derived.Below
import Derived.StillTailTactics
import Derived.Laws.CopyOwn
import Derived.Shelf.Small.Bits
import Derived.Deep.Draws
import Derived.Deep.AppendLies
import Derived.Maps.AppendAt
import Derived.OwnWalk
import Derived.Laws.BytesArg
import Derived.Laws.MakeOwn
import Derived.Laws.OwnMore
import Derived.Deep.OwnRows
import Derived.Tactics
import Derived.Lib.ConvBytes
import Derived.Laws.Slices
import Derived.WalkKit
import Derived.KernelRfl
import Derived.RowKit3
import Derived.Deep.LoopGhost
import Derived.Deep.QuietTactic
import Derived.BigQuiet
import Derived.WideLaws
import Derived.Deep.DeepCutAuto
import Derived.Deep.CutBlock
import Derived.Deep.RegionHeld3
import Derived.Laws.Rows
import Derived.Lib.AppendStr
import Derived.ArgAppend
import Derived.Laws.IdiomCopy
import Derived.OrdersHeld
import Derived.Laws.BitsLemmas
import Derived.RowKit
import Derived.Test.YtgnonaokinfaeaaWWords
import Derived.Test.YtgnonaokinfaeaaWLast
import Derived.Test.YtgnonaokinfaeaaWTab
import Derived.Test.YtgnonaokinfaeaaWFour
import Derived.Test.YtgnonaokinfaeaaWQPut
import Derived.Test.YtgnonaokinfaeaaWApart
import Derived.Test.YtgnonaokinfaeaaWArr
import Derived.Test.YtgnonaokinfaeaaWZeros
import Derived.Test.YtgnonaokinfaeaaWFoot
import Derived.Test.YtgnonaokinfaeaaWKept
import Derived.Test.YtgnonaokinfaeaaWShare
import Derived.Test.YtgnonaokinfaeaaWN
import Derived.Test.YtgnonaokinfaeaaWFootNe
import Derived.Test.YtgnonaokinfaeaaWAt
import Derived.Test.YtgnonaokinfaeaaWEqStruct
import Derived.Test.YtgnonaokinfaeaaWRepsOne
import Derived.Test.YtgnonaokinfaeaaWInv
import Derived.Test.YtgnonaokinfaeaaWInvWords
import Derived.Test.YtgnonaokinfaeaaWGuard
import Derived.Test.YtgnonaokinfaeaaWNEv
import Derived.Test.YtgnonaokinfaeaaWMore
namespace Go.Proofs.Ytgnonaokinfaeaa.PTexts
open Go.RowKit Go.Proofs.YtgnonaokinfaeaaW.PrintWords Go.Proofs.YtgnonaokinfaeaaW.PrintLast Go.Proofs.YtgnonaokinfaeaaW.PrintMore
attribute [local go_sem] max2_int min2_int max_two min_two max_three min_three max_four min_four   -- for this text's walks alone
set_option linter.unusedVariables false
set_option linter.unusedSimpArgs false



def errW : Option Int → Value
  | none => .nilIface
  | some c => .iface 0 (.int .i64 c)
theorem errW_none : errW none = .nilIface := rfl
theorem errW_some (c : Int) : errW (some c) = .iface 0 (.int .i64 c) := rfl

theorem info5 : (Try.prog.info? 5).map (fun i => (i.zero, i.size, i.bytes)) = some (some (.int .u8 0), 1, 1) := by kernel_rfl
theorem info44 : (Try.prog.info? 44).map (fun i => (i.zero, i.size, i.bytes)) = some (some (.int .u32 0), 1, 4) := by kernel_rfl
-- the values' own types

end Go.Proofs.Ytgnonaokinfaeaa.PTexts
