-- Words of the kit's print, shortened by a program of this session (wip/shake.py): what this claim does not name is left out
import Derived.Test.YtodadonpfcefbaaWWords
import Derived.Laws.StructEq
/-! ### 53. '==' of structs as_ one Bool -/
namespace Go.Proofs.YtodadonpfcefbaaW.PrintWords
open Go.RowKit
section
variable {P : Program} {d : Nat} {xs ys : Array Value} {f : Field} {fs : List Field} {a b : Value} {r s : Bool} {w : World}
end
end Go.Proofs.YtodadonpfcefbaaW.PrintWords
