/- Plain facts on whole numbers, bits and rounds, for the pure statements of this seat. -/
import Derived.Test.YtalpcnomfebdiaaWMore
import Derived.Laws.BitsLemmas
import Derived.Lib.Bytes
namespace Go.Proofs.Ytalpcnomfebdiaa.Base
open Go.RowKit Go.Proofs.YtalpcnomfebdiaaW.PrintWords Go.Proofs.YtalpcnomfebdiaaW.PrintLast Go.Proofs.YtalpcnomfebdiaaW.PrintMore
set_option linter.unusedVariables false
set_option linter.unusedSimpArgs false

/-! ### whole numbers -/
theorem w64 {x : Int} (h : -9223372036854775808 ≤ x) (h' : x < 9223372036854775808) : wrap64 x = x := by
  unfold wrap64; omega
/-! ### bits -/
theorem succ64 {j : Nat} (h : j < 9223372036854775807) : wrap64 ((j : Int) + 1) = ((j + 1 : Nat) : Int) := by
  rw [w64 (by omega) (by omega)]
  rfl
/-! ### lists of whole numbers as lists of natural ones -/
/-! ### bytes as texts -/
end Go.Proofs.Ytalpcnomfebdiaa.Base
