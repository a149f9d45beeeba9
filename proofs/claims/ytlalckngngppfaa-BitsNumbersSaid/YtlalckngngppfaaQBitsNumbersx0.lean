-- Written by a program of this session (wip/myprint.py): the machine's side of a law
import Derived.Test.YtlalckngngppfaaProg
import Derived.Below
import Derived.Deep.Draws
import Derived.Deep.AppendLies
import Derived.Maps.AppendAt
import Derived.OwnWalk
import Derived.Laws.BytesArg
import Derived.Laws.MakeOwn
import Derived.Laws.OwnMore
import Derived.Deep.OwnRows
import Derived.Tactics
import Derived.Lib.ConvBytes
import Derived.Laws.Slices
import Derived.WalkKit
import Derived.KernelRfl
import Derived.RowKit3
import Derived.Deep.LoopGhost
import Derived.Deep.QuietTactic
import Derived.BigQuiet
import Derived.WideLaws
import Derived.Deep.DeepCutAuto
import Derived.Deep.CutBlock
import Derived.Deep.RegionHeld3
import Derived.Laws.Rows
import Derived.Lib.AppendStr
import Derived.ArgAppend
import Derived.Laws.IdiomCopy
import Derived.OrdersHeld
import Derived.Laws.BitsLemmas
import Derived.RowKit
import Derived.StillTailTactics
import Derived.Test.YtlalckngngppfaaWWords
import Derived.Test.YtlalckngngppfaaWLast
import Derived.Test.YtlalckngngppfaaWTab
import Derived.Test.YtlalckngngppfaaWFour
import Derived.Test.YtlalckngngppfaaWQPut
import Derived.Test.YtlalckngngppfaaWApart
import Derived.Test.YtlalckngngppfaaWArr
import Derived.Test.YtlalckngngppfaaWZeros
import Derived.Test.YtlalckngngppfaaWFoot
import Derived.Test.YtlalckngngppfaaWKept
import Derived.Test.YtlalckngngppfaaWShare
import Derived.Test.YtlalckngngppfaaWN
import Derived.Test.YtlalckngngppfaaWFootNe
import Derived.Test.YtlalckngngppfaaWAt
import Derived.Test.YtlalckngngppfaaWEqStruct
import Derived.Test.YtlalckngngppfaaWRepsOne
import Derived.Test.YtlalckngngppfaaWInv
import Derived.Test.YtlalckngngppfaaWInvWords
import Derived.Test.YtlalckngngppfaaWGuard
import Derived.Test.YtlalckngngppfaaWNEv
import Derived.Test.YtlalckngngppfaaWMore
namespace Go.Proofs.Ytlalckngngppfaa.QBitsNumbers
open Go.RowKit Go.Proofs.YtlalckngngppfaaW.PrintWords Go.Proofs.YtlalckngngppfaaW.PrintLast Go.Proofs.YtlalckngngppfaaW.PrintMore
attribute [local go_sem] max2_int min2_int max_two min_two max_three min_three max_four min_four   -- for this text's walks alone
set_option linter.unusedVariables false
set_option linter.unusedSimpArgs false



def errW : Option Int → Value
  | none => .nilIface
  | some c => .iface 0 (.int .i64 c)
theorem errW_none : errW none = .nilIface := rfl
theorem errW_some (c : Int) : errW (some c) = .iface 0 (.int .i64 c) := rfl

theorem info5 : (Try.prog.info? 5).map (fun i => (i.zero, i.size, i.bytes)) = some (some (.int .u8 0), 1, 1) := by kernel_rfl
theorem info29 : (Try.prog.info? 29).map (fun i => (i.zero, i.size, i.bytes)) = some (some (.int .u64 0), 1, 8) := by kernel_rfl
-- the values' own types

end Go.Proofs.Ytlalckngngppfaa.QBitsNumbers
