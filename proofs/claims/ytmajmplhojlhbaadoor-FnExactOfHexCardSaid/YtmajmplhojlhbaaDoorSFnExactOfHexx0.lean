-- Written by sprint.py, a program of this session's, over the kit's print. Not trusted: Lean checks it.
import Derived.Test.YtmajmplhojlhbaaDoorProg
import Derived.Below
import Derived.Deep.Draws
import Derived.Deep.AppendLies
import Derived.Maps.AppendAt
import Derived.OwnWalk
import Derived.Laws.BytesArg
import Derived.Laws.MakeOwn
import Derived.Laws.OwnMore
import Derived.Deep.OwnRows
import Derived.Tactics
import Derived.Lib.ConvBytes
import Derived.Laws.Slices
import Derived.WalkKit
import Derived.KernelRfl
import Derived.RowKit3
import Derived.Deep.LoopGhost
import Derived.Deep.QuietTactic
import Derived.BigQuiet
import Derived.WideLaws
import Derived.Deep.DeepCutAuto
import Derived.Deep.CutBlock
import Derived.Deep.RegionHeld3
import Derived.Laws.Rows
import Derived.Lib.AppendStr
import Derived.ArgAppend
import Derived.Laws.IdiomCopy
import Derived.OrdersHeld
import Derived.Laws.BitsLemmas
import Derived.RowKit
import Derived.Laws.Runes
import Derived.Lib.Strings
import Derived.Shelf.Pu.ToError
import Derived.Shelf.Strings.Builder1
import Derived.Test.YtmajmplhojlhbaaDoorBK
import Derived.Test.YtmajmplhojlhbaaDoorLay
import Derived.Test.YtmajmplhojlhbaaDoorLayPu
import Derived.Test.YtmajmplhojlhbaaDoorWWords
import Derived.Test.YtmajmplhojlhbaaDoorWLast
import Derived.Test.YtmajmplhojlhbaaDoorWTab
import Derived.Test.YtmajmplhojlhbaaDoorWFour
import Derived.Test.YtmajmplhojlhbaaDoorWQPut
import Derived.Test.YtmajmplhojlhbaaDoorWApart
import Derived.Test.YtmajmplhojlhbaaDoorWArr
import Derived.Test.YtmajmplhojlhbaaDoorWZeros
import Derived.Test.YtmajmplhojlhbaaDoorWFoot
import Derived.Test.YtmajmplhojlhbaaDoorWKept
import Derived.Test.YtmajmplhojlhbaaDoorWShare
import Derived.Test.YtmajmplhojlhbaaDoorWN
import Derived.Test.YtmajmplhojlhbaaDoorWFootNe
import Derived.Test.YtmajmplhojlhbaaDoorWAt
import Derived.Test.YtmajmplhojlhbaaDoorWEqStruct
import Derived.Test.YtmajmplhojlhbaaDoorWRepsOne
import Derived.Test.YtmajmplhojlhbaaDoorWInv
import Derived.Test.YtmajmplhojlhbaaDoorWInvWords
import Derived.Test.YtmajmplhojlhbaaDoorWGuard
import Derived.Test.YtmajmplhojlhbaaDoorWNEv
import Derived.Test.YtmajmplhojlhbaaDoorWMore
namespace Go.Proofs.YtmajmplhojlhbaaDoor.SFnExactOfHex
open Go.RowKit Go.Proofs.YtmajmplhojlhbaaDoorW.PrintWords Go.Proofs.YtmajmplhojlhbaaDoorW.PrintLast Go.Proofs.YtmajmplhojlhbaaDoorW.PrintMore
attribute [local go_sem] max2_int min2_int max_two min_two max_three min_three max_four min_four   -- for this text's walks alone
set_option linter.unusedVariables false
set_option linter.unusedSimpArgs false



def errW : Option Int → Value
  | none => .nilIface
  | some c => .iface 69 (.int .i64 c)
theorem errW_none : errW none = .nilIface := rfl
theorem errW_some (c : Int) : errW (some c) = .iface 69 (.int .i64 c) := rfl

theorem info5 : (Tryd.prog.info? 5).map (fun i => (i.zero, i.size, i.bytes)) = some (some (.int .u8 0), 1, 1) := by kernel_rfl
-- the values' own types

end Go.Proofs.YtmajmplhojlhbaaDoor.SFnExactOfHex
