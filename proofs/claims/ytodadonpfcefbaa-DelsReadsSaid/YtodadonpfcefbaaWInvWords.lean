-- Words of the kit's print, shortened by a program of this session (wip/shake.py): what this claim does not name is left out
import Derived.Test.YtodadonpfcefbaaWInv
import Derived.Test.YtodadonpfcefbaaWFootNe
namespace Go.Proofs.YtodadonpfcefbaaW.PrintWords
open Go.RowKit
end Go.Proofs.YtodadonpfcefbaaW.PrintWords
namespace Go.Proofs.YtodadonpfcefbaaW.PrintLast
section
variable {ops : Array Oper} {a : Act} {o og : Oper} {g : Nat} {t : Tmp} {u : Bool}
end
end Go.Proofs.YtodadonpfcefbaaW.PrintLast
