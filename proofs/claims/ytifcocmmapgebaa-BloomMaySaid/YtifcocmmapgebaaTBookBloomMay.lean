/- Package columbariumbook, as printed for BloomMay: Within; few; known. -/
import Derived.Test.YtifcocmmapgebaaQBloomMayx
import Derived.Test.YtifcocmmapgebaaB1
namespace Go.Proofs.Ytifcocmmapgebaa.QBloomMay
open Go.RowKit Go.Proofs.YtifcocmmapgebaaW.PrintWords Go.Proofs.YtifcocmmapgebaaW.PrintLast Go.Proofs.YtifcocmmapgebaaW.PrintMore Go.Proofs.Ytifcocmmapgebaa.Base
set_option linter.unusedVariables false
set_option linter.unusedSimpArgs false

theorem within_some (n : Int) (hi : Nat) (h : hi < 1000000000) : ∃ r : Nat, r ≤ hi ∧ columbariumbook_Within.f n 0 (hi : Int) = some (r : Int) := by
  have e : wrap64 ((wrap64 ((hi : Int) - 0)) + 1) = ((hi + 1 : Nat) : Int) := by rw [w64 (x := (hi : Int) - 0) (by omega) (by omega), w64 (by omega) (by omega)]; omega
  have b1 := Int.tmod_lt_of_pos n (show (0 : Int) < ((hi + 1 : Nat) : Int) by omega)
  have b2 : -((hi + 1 : Nat) : Int) < Int.tmod n ((hi + 1 : Nat) : Int) := by
    have := Int.lt_tmod_of_pos n (show (0 : Int) < ((hi + 1 : Nat) : Int) by omega)
    omega
  unfold columbariumbook_Within.f
  rw [e, if_neg (by omega)]
  generalize Int.tmod n ((hi + 1 : Nat) : Int) = t at b1 b2 ⊢
  by_cases ht : t < 0
  · refine ⟨(t + hi + 1).toNat, by omega, ?_⟩
    rw [if_pos ht, w64 (x := t + (hi : Int)) (by omega) (by omega), w64 (x := t + (hi : Int) - 0) (by omega) (by omega), w64 (x := t + (hi : Int) - 0 + 1) (by omega) (by omega), w64 (by omega) (by omega)]
    congr 1
    omega
  · refine ⟨t.toNat, by omega, ?_⟩
    rw [if_neg ht, w64 (by omega) (by omega)]
    congr 1
    omega

end Go.Proofs.Ytifcocmmapgebaa.QBloomMay
