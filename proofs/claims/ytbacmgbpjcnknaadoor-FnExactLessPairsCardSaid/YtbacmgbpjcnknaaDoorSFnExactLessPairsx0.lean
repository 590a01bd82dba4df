-- Written by sprint.py, a program of this session's, over the kit's print. Not trusted: Lean checks it.
import Derived.Test.YtbacmgbpjcnknaaDoorProg
import Derived.Below
import Derived.Deep.Draws
import Derived.Deep.AppendLies
import Derived.Maps.AppendAt
import Derived.OwnWalk
import Derived.Laws.BytesArg
import Derived.Laws.MakeOwn
import Derived.Laws.OwnMore
import Derived.Deep.OwnRows
import Derived.Tactics
import Derived.Lib.ConvBytes
import Derived.Laws.Slices
import Derived.WalkKit
import Derived.KernelRfl
import Derived.RowKit3
import Derived.Deep.LoopGhost
import Derived.Deep.QuietTactic
import Derived.BigQuiet
import Derived.WideLaws
import Derived.Deep.DeepCutAuto
import Derived.Deep.CutBlock
import Derived.Deep.RegionHeld3
import Derived.Laws.Rows
import Derived.Lib.AppendStr
import Derived.ArgAppend
import Derived.Laws.IdiomCopy
import Derived.OrdersHeld
import Derived.Laws.BitsLemmas
import Derived.RowKit
import Derived.Laws.Runes
import Derived.Shelf.Unicode.DecodeAny
import Derived.Test.YtbacmgbpjcnknaaDoorLay
import Derived.Test.YtbacmgbpjcnknaaDoorWWords
import Derived.Test.YtbacmgbpjcnknaaDoorWLast
import Derived.Test.YtbacmgbpjcnknaaDoorWTab
import Derived.Test.YtbacmgbpjcnknaaDoorWFour
import Derived.Test.YtbacmgbpjcnknaaDoorWQPut
import Derived.Test.YtbacmgbpjcnknaaDoorWApart
import Derived.Test.YtbacmgbpjcnknaaDoorWArr
import Derived.Test.YtbacmgbpjcnknaaDoorWZeros
import Derived.Test.YtbacmgbpjcnknaaDoorWFoot
import Derived.Test.YtbacmgbpjcnknaaDoorWKept
import Derived.Test.YtbacmgbpjcnknaaDoorWShare
import Derived.Test.YtbacmgbpjcnknaaDoorWN
import Derived.Test.YtbacmgbpjcnknaaDoorWFootNe
import Derived.Test.YtbacmgbpjcnknaaDoorWAt
import Derived.Test.YtbacmgbpjcnknaaDoorWEqStruct
import Derived.Test.YtbacmgbpjcnknaaDoorWRepsOne
import Derived.Test.YtbacmgbpjcnknaaDoorWInv
import Derived.Test.YtbacmgbpjcnknaaDoorWInvWords
import Derived.Test.YtbacmgbpjcnknaaDoorWGuard
import Derived.Test.YtbacmgbpjcnknaaDoorWNEv
import Derived.Test.YtbacmgbpjcnknaaDoorWMore
namespace Go.Proofs.YtbacmgbpjcnknaaDoor.SFnExactLessPairs
open Go.RowKit Go.Proofs.YtbacmgbpjcnknaaDoorW.PrintWords Go.Proofs.YtbacmgbpjcnknaaDoorW.PrintLast Go.Proofs.YtbacmgbpjcnknaaDoorW.PrintMore
attribute [local go_sem] max2_int min2_int max_two min_two max_three min_three max_four min_four   -- for this text's walks alone
set_option linter.unusedVariables false
set_option linter.unusedSimpArgs false



def errW : Option Int → Value
  | none => .nilIface
  | some c => .iface 0 (.int .i64 c)
theorem errW_none : errW none = .nilIface := rfl
theorem errW_some (c : Int) : errW (some c) = .iface 0 (.int .i64 c) := rfl

theorem info3 : (Tryd.prog.info? 3).map (fun i => (i.zero, i.size, i.bytes)) = some (some (.int .i64 0), 1, 8) := by kernel_rfl
theorem info5 : (Tryd.prog.info? 5).map (fun i => (i.zero, i.size, i.bytes)) = some (some (.int .u8 0), 1, 1) := by kernel_rfl
-- the values' own types

end Go.Proofs.YtbacmgbpjcnknaaDoor.SFnExactLessPairs
