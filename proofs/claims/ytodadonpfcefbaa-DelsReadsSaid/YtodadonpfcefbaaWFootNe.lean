-- Words of the kit's print, shortened by a program of this session (wip/shake.py): what this claim does not name is left out
import Derived.Test.YtodadonpfcefbaaWN
/-! ### 52. A row that stays read whatever happens to a block (a set of blocks) doesn't lie there -/
namespace Go.Proofs.YtodadonpfcefbaaW.PrintWords
open Go.RowKit
namespace Kd
section
variable {α : Type} {d : Kd α} {W : World} {g n : Nat} {S ok : Nat → Prop} {A : Option Addr} {ad : Addr} {xs : List α}
end
end Kd
end Go.Proofs.YtodadonpfcefbaaW.PrintWords
