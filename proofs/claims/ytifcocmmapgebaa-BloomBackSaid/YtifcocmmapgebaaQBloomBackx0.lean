-- Written by a program of this session (wip/myprint.py): the machine's side of a law
import Derived.Test.YtifcocmmapgebaaProg
import Derived.Below
import Derived.Deep.Draws
import Derived.Deep.AppendLies
import Derived.Maps.AppendAt
import Derived.OwnWalk
import Derived.Laws.BytesArg
import Derived.Laws.MakeOwn
import Derived.Laws.OwnMore
import Derived.Deep.OwnRows
import Derived.Tactics
import Derived.Lib.ConvBytes
import Derived.Laws.Slices
import Derived.WalkKit
import Derived.KernelRfl
import Derived.RowKit3
import Derived.Deep.LoopGhost
import Derived.Deep.QuietTactic
import Derived.BigQuiet
import Derived.WideLaws
import Derived.Deep.DeepCutAuto
import Derived.Deep.CutBlock
import Derived.Deep.RegionHeld3
import Derived.Laws.Rows
import Derived.Lib.AppendStr
import Derived.ArgAppend
import Derived.Laws.IdiomCopy
import Derived.OrdersHeld
import Derived.Laws.BitsLemmas
import Derived.RowKit
import Derived.WalkSpells
import Derived.StillTailTactics
import Derived.Sort.OwnSorted
import Derived.Lib.OwnBridge
import Derived.Test.YtifcocmmapgebaaShelf
import Derived.Test.YtifcocmmapgebaaWWords
import Derived.Test.YtifcocmmapgebaaWLast
import Derived.Test.YtifcocmmapgebaaWTab
import Derived.Test.YtifcocmmapgebaaWFour
import Derived.Test.YtifcocmmapgebaaWQPut
import Derived.Test.YtifcocmmapgebaaWApart
import Derived.Test.YtifcocmmapgebaaWArr
import Derived.Test.YtifcocmmapgebaaWZeros
import Derived.Test.YtifcocmmapgebaaWFoot
import Derived.Test.YtifcocmmapgebaaWKept
import Derived.Test.YtifcocmmapgebaaWShare
import Derived.Test.YtifcocmmapgebaaWN
import Derived.Test.YtifcocmmapgebaaWFootNe
import Derived.Test.YtifcocmmapgebaaWAt
import Derived.Test.YtifcocmmapgebaaWEqStruct
import Derived.Test.YtifcocmmapgebaaWRepsOne
import Derived.Test.YtifcocmmapgebaaWInv
import Derived.Test.YtifcocmmapgebaaWInvWords
import Derived.Test.YtifcocmmapgebaaWGuard
import Derived.Test.YtifcocmmapgebaaWNEv
import Derived.Test.YtifcocmmapgebaaWMore
namespace Go.Proofs.Ytifcocmmapgebaa.QBloomBack
open Go.RowKit Go.Proofs.YtifcocmmapgebaaW.PrintWords Go.Proofs.YtifcocmmapgebaaW.PrintLast Go.Proofs.YtifcocmmapgebaaW.PrintMore
attribute [local go_sem] max2_int min2_int max_two min_two max_three min_three max_four min_four   -- for this text's walks alone
set_option linter.unusedVariables false
set_option linter.unusedSimpArgs false



def errW : Option Int → Value
  | none => .nilIface
  | some c => .iface 0 (.int .i64 c)
theorem errW_none : errW none = .nilIface := rfl
theorem errW_some (c : Int) : errW (some c) = .iface 0 (.int .i64 c) := rfl

theorem info5 : (Try.prog.info? 5).map (fun i => (i.zero, i.size, i.bytes)) = some (some (.int .u8 0), 1, 1) := by kernel_rfl
theorem info9 : (Try.prog.info? 9).map (fun i => (i.zero, i.size, i.bytes)) = some (some (.string ⟨#[]⟩), 1, 16) := by kernel_rfl
theorem info57 : (Try.prog.info? 57).map (fun i => (i.zero, i.size, i.bytes)) = some (some (.int .u64 0), 1, 8) := by kernel_rfl
-- the values' own types

end Go.Proofs.Ytifcocmmapgebaa.QBloomBack
