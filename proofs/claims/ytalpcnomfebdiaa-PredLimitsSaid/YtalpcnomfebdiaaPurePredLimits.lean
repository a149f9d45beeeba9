/- A predicate may be as deep, and have as many parts, as may be, and no more: each of the few cases is reckoned. -/
import Derived.Test.YtalpcnomfebdiaaQPredLimitsx
import Derived.Test.YtalpcnomfebdiaaB0
namespace Go.Proofs.Ytalpcnomfebdiaa.QPredLimits
open Go.RowKit Go.Proofs.YtalpcnomfebdiaaW.PrintWords Go.Proofs.YtalpcnomfebdiaaW.PrintLast Go.Proofs.YtalpcnomfebdiaaW.PrintMore Go.Proofs.Ytalpcnomfebdiaa.Base
set_option linter.unusedVariables false
set_option linter.unusedSimpArgs false

theorem within_f {a : Int} (h : (Lit.int .i64 a).wf = true) (n : Nat) (hn : n < 1000) : ∃ d : Nat, d ≤ n ∧ columbariumbook_Within.f a 0 (n : Int) = some (d : Int) := by
  have hr := wf_i64 h
  have e1 : wrap64 (wrap64 ((n : Int) - 0) + 1) = ((n + 1 : Nat) : Int) := by
    rw [w64 (x := (n : Int) - 0) (by omega) (by omega), w64 (by omega) (by omega)]
    omega
  have hp : (0 : Int) < ((n + 1 : Nat) : Int) := by omega
  have b1 : -((n + 1 : Nat) : Int) < Int.tmod a ((n + 1 : Nat) : Int) := Int.lt_tmod_of_pos a hp
  have b2 : Int.tmod a ((n + 1 : Nat) : Int) < ((n + 1 : Nat) : Int) := Int.tmod_lt_of_pos a hp
  unfold columbariumbook_Within.f
  rw [e1, if_neg (by omega)]
  generalize Int.tmod a ((n + 1 : Nat) : Int) = m at *
  by_cases h0 : m < 0
  · rw [if_pos h0]
    refine ⟨(m + n + 1).toNat, by omega, ?_⟩
    rw [w64 (x := m + n) (by omega) (by omega), w64 (x := m + n - 0) (by omega) (by omega), w64 (x := m + n - 0 + 1) (by omega) (by omega), w64 (by omega) (by omega)]
    congr 1
    omega
  · rw [if_neg h0]
    refine ⟨m.toNat, by omega, ?_⟩
    rw [w64 (by omega) (by omega)]
    congr 1
    omega
/-- The law behind its two numbers. -/
def restL (k : Nat) (d w : Int) : Option Bool := (columbariumlaw13_null.f (⟨#[120]⟩ : ByteArray)).bind fun bt443 => ((columbariumlaw13_nots.f k bt443.1 bt443.2.1 bt443.2.2.1 bt443.2.2.2.1 bt443.2.2.2.2.1 bt443.2.2.2.2.2.1 bt443.2.2.2.2.2.2 d).bind fun bt454 => (columbariumlaw13_PredLimits.l0 k d w 0 bt454.1 bt454.2.1 bt454.2.2.1 bt454.2.2.2.1 bt454.2.2.2.2.1 bt454.2.2.2.2.2.1 bt454.2.2.2.2.2.2 2 (⟨#[]⟩ : ByteArray) 0 0 (⟨#[]⟩ : ByteArray) ([] : List (S25))))
def widths (d : Int) : Bool := (List.range 51).all fun w => restL 200 d (w : Int) == some true
set_option maxHeartbeats 0 in
theorem widths_0 : widths 0 = true := by decide +kernel
set_option maxHeartbeats 0 in
theorem widths_1 : widths 1 = true := by decide +kernel
set_option maxHeartbeats 0 in
theorem widths_2 : widths 2 = true := by decide +kernel
set_option maxHeartbeats 0 in
theorem widths_3 : widths 3 = true := by decide +kernel
set_option maxHeartbeats 0 in
theorem widths_4 : widths 4 = true := by decide +kernel
set_option maxHeartbeats 0 in
theorem widths_5 : widths 5 = true := by decide +kernel
set_option maxHeartbeats 0 in
theorem widths_6 : widths 6 = true := by decide +kernel
set_option maxHeartbeats 0 in
theorem widths_7 : widths 7 = true := by decide +kernel
set_option maxHeartbeats 0 in
theorem widths_8 : widths 8 = true := by decide +kernel
set_option maxHeartbeats 0 in
theorem widths_9 : widths 9 = true := by decide +kernel
set_option maxHeartbeats 0 in
theorem widths_10 : widths 10 = true := by decide +kernel
theorem rest_all : ∀ d : Nat, d ≤ 10 → widths (d : Int) = true
  | 0, _ => widths_0
  | 1, _ => widths_1
  | 2, _ => widths_2
  | 3, _ => widths_3
  | 4, _ => widths_4
  | 5, _ => widths_5
  | 6, _ => widths_6
  | 7, _ => widths_7
  | 8, _ => widths_8
  | 9, _ => widths_9
  | 10, _ => widths_10
  | n + 11, h => absurd h (by omega)
theorem rest_true {d w : Nat} (hd : d ≤ 10) (hw : w ≤ 50) : restL 200 (d : Int) (w : Int) = some true := by
  have h := List.all_eq_true.1 (rest_all d hd) w (List.mem_range.2 (by omega))
  exact beq_iff_eq.1 h

end Go.Proofs.Ytalpcnomfebdiaa.QPredLimits
namespace Go.Proofs.Ytalpcnomfebdiaa.Pure
open Go.RowKit Go.Proofs.Ytalpcnomfebdiaa.QPredLimits Go.Proofs.YtalpcnomfebdiaaW.PrintWords Go.Proofs.YtalpcnomfebdiaaW.PrintLast

theorem PredLimits : columbariumlaw13_PredLimits.Pure := by
  intro a0 a1 h0 h1
  obtain ⟨d, hd, ed⟩ := within_f h0 10 (by decide)
  obtain ⟨w, hw, ew⟩ := within_f h1 50 (by decide)
  refine ⟨200, ?_⟩
  unfold columbariumlaw13_PredLimits.f
  rw [show (10 : Int) = ((10 : Nat) : Int) from rfl, ed, Option.bind_some, show (50 : Int) = ((50 : Nat) : Int) from rfl, ew, Option.bind_some]
  exact rest_true hd hw

end Go.Proofs.Ytalpcnomfebdiaa.Pure
