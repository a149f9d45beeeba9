-- Words of the kit's print, shortened by a program of this session (wip/shake.py): what this claim does not name is left out
import Derived.Test.YtodadonpfcefbaaWTab
/-! ### 56. Four, five, six operations that may come up next, in any order -/
namespace Go.Proofs.YtodadonpfcefbaaW.PrintLast
section
variable {P : Program} {ops : Array Oper} {Q : Exit → Act → World → Prop} {md : Region.Mode} {S : World → Prop} {ds : List Nat} {T : Bool × List (List Nat × List Nat)}
end
end Go.Proofs.YtodadonpfcefbaaW.PrintLast
