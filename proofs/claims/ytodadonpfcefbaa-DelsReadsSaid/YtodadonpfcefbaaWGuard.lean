-- Words of the kit's print, shortened by a program of this session (wip/shake.py): what this claim does not name is left out
import Derived.Test.YtodadonpfcefbaaWWords
/-! ### 58. A guarded operation whose guard is known to want it: the same goal without the guard -/
namespace Go.Proofs.YtodadonpfcefbaaW.PrintWords
open Go.RowKit
section
variable {P : Program} {ops : Array Oper} {rest : List Oper} {o : Oper} {a : Act} {Q : Exit → Act → World → Prop} {W : World}
end
end Go.Proofs.YtodadonpfcefbaaW.PrintWords
