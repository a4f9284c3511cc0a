-- Written by a program of this session (wip/tools/xprint.py) out of the translation, over contracts proved by hand. Lean checks it.
import Derived.Test.YteidojpklpfdeaaDoorProg
import Derived.Below
import Derived.Deep.Draws
import Derived.Deep.AppendLies
import Derived.Maps.AppendAt
import Derived.OwnWalk
import Derived.Laws.BytesArg
import Derived.Laws.MakeOwn
import Derived.Laws.OwnMore
import Derived.Deep.OwnRows
import Derived.Tactics
import Derived.Lib.ConvBytes
import Derived.Laws.Slices
import Derived.WalkKit
import Derived.KernelRfl
import Derived.RowKit3
import Derived.Deep.LoopGhost
import Derived.Deep.QuietTactic
import Derived.BigQuiet
import Derived.WideLaws
import Derived.Deep.DeepCutAuto
import Derived.Deep.CutBlock
import Derived.Deep.RegionHeld3
import Derived.Laws.Rows
import Derived.Lib.AppendStr
import Derived.ArgAppend
import Derived.Laws.IdiomCopy
import Derived.OrdersHeld
import Derived.Laws.BitsLemmas
import Derived.RowKit
import Derived.Test.YteidojpklpfdeaaDoorMB
import Derived.Test.YteidojpklpfdeaaDoorME
import Derived.Test.YteidojpklpfdeaaDoorMF
import Derived.Test.YteidojpklpfdeaaDoorMH
import Derived.Test.YteidojpklpfdeaaDoorMI
import Derived.Test.YteidojpklpfdeaaDoorWWords
import Derived.Test.YteidojpklpfdeaaDoorWLast
import Derived.Test.YteidojpklpfdeaaDoorWTab
import Derived.Test.YteidojpklpfdeaaDoorWFour
import Derived.Test.YteidojpklpfdeaaDoorWQPut
import Derived.Test.YteidojpklpfdeaaDoorWApart
import Derived.Test.YteidojpklpfdeaaDoorWArr
import Derived.Test.YteidojpklpfdeaaDoorWZeros
import Derived.Test.YteidojpklpfdeaaDoorWFoot
import Derived.Test.YteidojpklpfdeaaDoorWKept
import Derived.Test.YteidojpklpfdeaaDoorWShare
import Derived.Test.YteidojpklpfdeaaDoorWN
import Derived.Test.YteidojpklpfdeaaDoorWFootNe
import Derived.Test.YteidojpklpfdeaaDoorWAt
import Derived.Test.YteidojpklpfdeaaDoorWEqStruct
import Derived.Test.YteidojpklpfdeaaDoorWRepsOne
import Derived.Test.YteidojpklpfdeaaDoorWInv
import Derived.Test.YteidojpklpfdeaaDoorWInvWords
import Derived.Test.YteidojpklpfdeaaDoorWGuard
import Derived.Test.YteidojpklpfdeaaDoorWNEv
import Derived.Test.YteidojpklpfdeaaDoorWMore
namespace Go.Proofs.YteidojpklpfdeaaDoorX.QA
open Go.RowKit Go.Proofs.YteidojpklpfdeaaDoorW.PrintWords Go.Proofs.YteidojpklpfdeaaDoorW.PrintLast Go.Proofs.YteidojpklpfdeaaDoorW.PrintMore
attribute [local go_sem] max2_int min2_int max_two min_two max_three min_three max_four min_four   -- for this text's walks alone
set_option linter.unusedVariables false
set_option linter.unusedSimpArgs false



def errW : Option Int → Value
  | none => .nilIface
  | some c => .iface 0 (.int .i64 c)
theorem errW_none : errW none = .nilIface := rfl
theorem errW_some (c : Int) : errW (some c) = .iface 0 (.int .i64 c) := rfl

theorem info9 : (Tryd.prog.info? 9).map (fun i => (i.zero, i.size, i.bytes)) = some (some (.string ⟨#[]⟩), 1, 16) := by kernel_rfl
-- the values' own types

end Go.Proofs.YteidojpklpfdeaaDoorX.QA
