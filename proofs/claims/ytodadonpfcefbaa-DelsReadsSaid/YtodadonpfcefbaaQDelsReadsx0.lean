-- Written by a program of this session (wip/myprint.py): the machine's side of a law
import Derived.Test.YtodadonpfcefbaaProg
import Derived.Below
import Derived.Deep.Draws
import Derived.Deep.AppendLies
import Derived.Maps.AppendAt
import Derived.OwnWalk
import Derived.Laws.BytesArg
import Derived.Laws.MakeOwn
import Derived.Laws.OwnMore
import Derived.Deep.OwnRows
import Derived.Tactics
import Derived.Lib.ConvBytes
import Derived.Laws.Slices
import Derived.WalkKit
import Derived.KernelRfl
import Derived.RowKit3
import Derived.Deep.LoopGhost
import Derived.Deep.QuietTactic
import Derived.BigQuiet
import Derived.WideLaws
import Derived.Deep.DeepCutAuto
import Derived.Deep.CutBlock
import Derived.Deep.RegionHeld3
import Derived.Laws.Rows
import Derived.Lib.AppendStr
import Derived.ArgAppend
import Derived.Laws.IdiomCopy
import Derived.OrdersHeld
import Derived.Laws.BitsLemmas
import Derived.RowKit
import Derived.StillTailTactics
import Derived.Test.YtodadonpfcefbaaWWords
import Derived.Test.YtodadonpfcefbaaWLast
import Derived.Test.YtodadonpfcefbaaWTab
import Derived.Test.YtodadonpfcefbaaWFour
import Derived.Test.YtodadonpfcefbaaWQPut
import Derived.Test.YtodadonpfcefbaaWApart
import Derived.Test.YtodadonpfcefbaaWArr
import Derived.Test.YtodadonpfcefbaaWZeros
import Derived.Test.YtodadonpfcefbaaWFoot
import Derived.Test.YtodadonpfcefbaaWKept
import Derived.Test.YtodadonpfcefbaaWShare
import Derived.Test.YtodadonpfcefbaaWN
import Derived.Test.YtodadonpfcefbaaWFootNe
import Derived.Test.YtodadonpfcefbaaWAt
import Derived.Test.YtodadonpfcefbaaWEqStruct
import Derived.Test.YtodadonpfcefbaaWRepsOne
import Derived.Test.YtodadonpfcefbaaWInv
import Derived.Test.YtodadonpfcefbaaWInvWords
import Derived.Test.YtodadonpfcefbaaWGuard
import Derived.Test.YtodadonpfcefbaaWNEv
import Derived.Test.YtodadonpfcefbaaWMore
namespace Go.Proofs.Ytodadonpfcefbaa.QDelsReads
open Go.RowKit Go.Proofs.YtodadonpfcefbaaW.PrintWords Go.Proofs.YtodadonpfcefbaaW.PrintLast Go.Proofs.YtodadonpfcefbaaW.PrintMore
attribute [local go_sem] max2_int min2_int max_two min_two max_three min_three max_four min_four   -- for this text's walks alone
set_option linter.unusedVariables false
set_option linter.unusedSimpArgs false



def errW : Option Int → Value
  | none => .nilIface
  | some c => .iface 0 (.int .i64 c)
theorem errW_none : errW none = .nilIface := rfl
theorem errW_some (c : Int) : errW (some c) = .iface 0 (.int .i64 c) := rfl

theorem info3 : (Try.prog.info? 3).map (fun i => (i.zero, i.size, i.bytes)) = some (some (.int .i64 0), 1, 8) := by kernel_rfl
theorem info4 : (Try.prog.info? 4).map (fun i => (i.zero, i.size, i.bytes)) = some (some (.bool false), 1, 1) := by kernel_rfl
theorem info5 : (Try.prog.info? 5).map (fun i => (i.zero, i.size, i.bytes)) = some (some (.int .u8 0), 1, 1) := by kernel_rfl
theorem info53 : (Try.prog.info? 53).map (fun i => (i.zero, i.size, i.bytes)) = some (some (.int .u64 0), 1, 8) := by kernel_rfl
-- the values' own types

end Go.Proofs.Ytodadonpfcefbaa.QDelsReads
