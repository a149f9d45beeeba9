-- Written by a program of this session (wip/myprint.py): the machine's side of a law
import Derived.Test.YtalpcnomfebdiaaQPredPairsx0
import Derived.Test.YtalpcnomfebdiaaQPredPairsx1
import Derived.Test.YtalpcnomfebdiaaQPredPairsx9
import Derived.Test.YtalpcnomfebdiaaQPredPairsx10
import Derived.Test.YtalpcnomfebdiaaQPredPairsx12
namespace Go.Proofs.Ytalpcnomfebdiaa.QPredPairs
open Go.RowKit Go.Proofs.YtalpcnomfebdiaaW.PrintWords Go.Proofs.YtalpcnomfebdiaaW.PrintLast Go.Proofs.YtalpcnomfebdiaaW.PrintMore
attribute [local go_sem] max2_int min2_int max_two min_two max_three min_three max_four min_four   -- for this text's walks alone
set_option linter.unusedVariables false
set_option linter.unusedSimpArgs false

/-! ### columbariumlaw13_PredPairs: function 4 -/
mutual
def columbariumlaw13_PredPairs.j0 : Nat → Int → Int → Bool → Int → Int → List (S52) → Option (Bool)
 | 0, _, _, _, _, _, _ => none
 | k + 1, x3, x4, x57, x468000, x468001, x468002 => if x57 = true then (some false) else (if x3 > x4 then (columbariumlaw13_PredPairs.j1 k x4 x3 x468000 x468001 x468002) else (columbariumlaw13_PredPairs.j1 k x3 x4 x468000 x468001 x468002))
def columbariumlaw13_PredPairs.j1 : Nat → Int → Int → Int → Int → List (S52) → Option (Bool)
 | 0, _, _, _, _, _ => none
 | k + 1, x3, x4, x468000, x468001, x468002 => if x3 = (-9223372036854775808) then (columbariumlaw13_PredPairs.j2 k x3 x4 true x468000 x468001 x468002) else (columbariumlaw13_PredPairs.j2 k x3 x4 (x4 == 9223372036854775807) x468000 x468001 x468002)
def columbariumlaw13_PredPairs.j2 : Nat → Int → Int → Bool → Int → Int → List (S52) → Option (Bool)
 | 0, _, _, _, _, _, _ => none
 | k + 1, x3, x4, x68, x468000, x468001, x468002 => if x68 = true then ((columbariumlaw13_known.f k).bind fun t514 => (some t514)) else ((some (([(⟨10, (⟨#[]⟩ : ByteArray), (-9223372036854775808), wrap64 (x3 - 1), (⟨#[]⟩ : ByteArray), ([] : List ByteArray), ([] : List (S25))⟩ : S25), (⟨10, (⟨#[]⟩ : ByteArray), x3, x4, (⟨#[]⟩ : ByteArray), ([] : List ByteArray), ([] : List (S25))⟩ : S25), (⟨10, (⟨#[]⟩ : ByteArray), wrap64 (x4 + 1), 9223372036854775807, (⟨#[]⟩ : ByteArray), ([] : List ByteArray), ([] : List (S25))⟩ : S25)] : List (S25)) : List (S25))).bind fun y515 => (columbariumlaw13_PredPairs.l0 k x3 0 y515 (y515.length : Int) 0 x468000 x468001 x468002))
def columbariumlaw13_PredPairs.l0 : Nat → Int → Int → List (S25) → Int → Int → Int → Int → List (S52) → Option (Bool)
 | 0, _, _, _, _, _, _, _, _ => none
 | k + 1, x3, x14, x79, x80, x81, x468000, x468001, x468002 => if x81 < x80 then (if 0 ≤ x81 then (if x81 < (x79.length : Int) then ((pred_Eval.f k ((rd_T25 x79 x81).f0) ((rd_T25 x79 x81).f1) ((rd_T25 x79 x81).f2) ((rd_T25 x79 x81).f3) ((rd_T25 x79 x81).f4) ((rd_T25 x79 x81).f5) ((rd_T25 x79 x81).f6) x468000 x468001 x468002).bind fun t520 => (if t520 = true then (columbariumlaw13_PredPairs.l0 k x3 (wrap64 (x14 + 1)) x79 x80 (wrap64 (x81 + 1)) x468000 x468001 x468002) else (columbariumlaw13_PredPairs.l0 k x3 x14 x79 x80 (wrap64 (x81 + 1)) x468000 x468001 x468002))) else (none)) else (none)) else ((pred_Eval.f k 4 (⟨#[97]⟩ : ByteArray) x3 0 (⟨#[]⟩ : ByteArray) ([] : List ByteArray) ([] : List (S25)) x468000 x468001 x468002).bind fun t521 => ((pred_Eval.f k 5 (⟨#[97]⟩ : ByteArray) x3 0 (⟨#[]⟩ : ByteArray) ([] : List ByteArray) ([] : List (S25)) x468000 x468001 x468002).bind fun t522 => ((pred_Eval.f k 4 (⟨#[97]⟩ : ByteArray) (wrap64 (x3 + 1)) 0 (⟨#[]⟩ : ByteArray) ([] : List ByteArray) ([] : List (S25)) x468000 x468001 x468002).bind fun t523 => (if x14 = 1 then (if t521 = true then (if (t523 == true) = true then (if t522 = true then (some false) else ((pred_Eval.f k 9 (⟨#[97]⟩ : ByteArray) 0 0 (⟨#[]⟩ : ByteArray) ([] : List ByteArray) ([] : List (S25)) x468000 x468001 x468002).bind fun t524 => (if t524 = true then (if t523 = true then (some false) else ((columbariumlaw13_known.f k).bind fun t525 => (some t525))) else ((columbariumlaw13_known.f k).bind fun t526 => (some t526))))) else (some false)) else (if (t523 == t522) = true then ((pred_Eval.f k 9 (⟨#[97]⟩ : ByteArray) 0 0 (⟨#[]⟩ : ByteArray) ([] : List ByteArray) ([] : List (S25)) x468000 x468001 x468002).bind fun t527 => (if t527 = true then (if t523 = true then (some false) else ((columbariumlaw13_known.f k).bind fun t528 => (some t528))) else ((columbariumlaw13_known.f k).bind fun t529 => (some t529)))) else (some false))) else (some false)))))
end
def columbariumlaw13_PredPairs.f (k : Nat) (a0_0 : Int) (a0_1 : ByteArray) (a0_2 : Int) (a0_3 : Int) (a0_4 : ByteArray) (l0_5 : List ByteArray) (l0_6 : List (S25)) (a1_0 : Int) (a1_1 : ByteArray) (a1_2 : Int) (a1_3 : Int) (a1_4 : ByteArray) (l1_5 : List ByteArray) (l1_6 : List (S25)) (a2_0 : Int) (a2_1 : Int) (l2_2 : List (S52)) (a3 : Int) (a4 : Int) : Option (Bool) := (columbariumkeep_Cut.f k a0_0 a0_1 a0_2 a0_3 a0_4 l0_5 l0_6 3).bind fun bt440 => ((columbariumkeep_Cut.f k a1_0 a1_1 a1_2 a1_3 a1_4 l1_5 l1_6 3).bind fun bt451 => ((columbariumkeep_Tame.f k a2_0 a2_1 l2_2 1).bind fun bt462 => ((some (([(⟨bt440.1, bt440.2.1, bt440.2.2.1, bt440.2.2.2.1, bt440.2.2.2.2.1, bt440.2.2.2.2.2.1, bt440.2.2.2.2.2.2⟩ : S25), (⟨bt451.1, bt451.2.1, bt451.2.2.1, bt451.2.2.2.1, bt451.2.2.2.2.1, bt451.2.2.2.2.2.1, bt451.2.2.2.2.2.2⟩ : S25)] : List (S25)) : List (S25))).bind fun y468 => ((columbariumlaw13_nots.f k bt440.1 bt440.2.1 bt440.2.2.1 bt440.2.2.2.1 bt440.2.2.2.2.1 bt440.2.2.2.2.2.1 bt440.2.2.2.2.2.2 1).bind fun bt472 => ((columbariumlaw13_nots.f k bt451.1 bt451.2.1 bt451.2.2.1 bt451.2.2.2.1 bt451.2.2.2.2.1 bt451.2.2.2.2.2.1 bt451.2.2.2.2.2.2 1).bind fun bt483 => ((columbariumlaw13_nots.f k 1 (⟨#[]⟩ : ByteArray) 0 0 (⟨#[]⟩ : ByteArray) ([] : List ByteArray) y468 1).bind fun bt498 => ((pred_Eval.f k bt498.1 bt498.2.1 bt498.2.2.1 bt498.2.2.2.1 bt498.2.2.2.2.1 bt498.2.2.2.2.2.1 bt498.2.2.2.2.2.2 bt462.1 bt462.2.1 bt462.2.2).bind fun t509 => ((pred_Eval.f k 2 (⟨#[]⟩ : ByteArray) 0 0 (⟨#[]⟩ : ByteArray) ([] : List ByteArray) (([(⟨bt472.1, bt472.2.1, bt472.2.2.1, bt472.2.2.2.1, bt472.2.2.2.2.1, bt472.2.2.2.2.2.1, bt472.2.2.2.2.2.2⟩ : S25), (⟨bt483.1, bt483.2.1, bt483.2.2.1, bt483.2.2.2.1, bt483.2.2.2.2.1, bt483.2.2.2.2.2.1, bt483.2.2.2.2.2.2⟩ : S25)] : List (S25))) bt462.1 bt462.2.1 bt462.2.2).bind fun t510 => (if (t509 != t510) = true then (columbariumlaw13_PredPairs.j0 k a3 a4 true bt462.1 bt462.2.1 bt462.2.2) else ((pred_Eval.f k 1 (⟨#[]⟩ : ByteArray) 0 0 (⟨#[]⟩ : ByteArray) ([] : List ByteArray) y468 bt462.1 bt462.2.1 bt462.2.2).bind fun t511 => ((pred_Eval.f k bt440.1 bt440.2.1 bt440.2.2.1 bt440.2.2.2.1 bt440.2.2.2.2.1 bt440.2.2.2.2.2.1 bt440.2.2.2.2.2.2 bt462.1 bt462.2.1 bt462.2.2).bind fun t512 => (if t512 = true then ((pred_Eval.f k bt451.1 bt451.2.1 bt451.2.2.1 bt451.2.2.2.1 bt451.2.2.2.2.1 bt451.2.2.2.2.2.1 bt451.2.2.2.2.2.2 bt462.1 bt462.2.1 bt462.2.2).bind fun t513 => (columbariumlaw13_PredPairs.j0 k a3 a4 (t511 != t513) bt462.1 bt462.2.1 bt462.2.2)) else (columbariumlaw13_PredPairs.j0 k a3 a4 (t511 != false) bt462.1 bt462.2.1 bt462.2.2)))))))))))))
theorem columbariumlaw13_PredPairs.mono_l : ∀ k, (∀ y0 y1 y2 y3 y4 y5, LeO (columbariumlaw13_PredPairs.j0 k y0 y1 y2 y3 y4 y5) (columbariumlaw13_PredPairs.j0 (k + 1) y0 y1 y2 y3 y4 y5)) ∧ (∀ y0 y1 y2 y3 y4, LeO (columbariumlaw13_PredPairs.j1 k y0 y1 y2 y3 y4) (columbariumlaw13_PredPairs.j1 (k + 1) y0 y1 y2 y3 y4)) ∧ (∀ y0 y1 y2 y3 y4 y5, LeO (columbariumlaw13_PredPairs.j2 k y0 y1 y2 y3 y4 y5) (columbariumlaw13_PredPairs.j2 (k + 1) y0 y1 y2 y3 y4 y5)) ∧ (∀ y0 y1 y2 y3 y4 y5 y6 y7, LeO (columbariumlaw13_PredPairs.l0 k y0 y1 y2 y3 y4 y5 y6 y7) (columbariumlaw13_PredPairs.l0 (k + 1) y0 y1 y2 y3 y4 y5 y6 y7))
 | 0 => ⟨fun _ _ _ _ _ _ r h => by simp [columbariumlaw13_PredPairs.j0] at h, fun _ _ _ _ _ r h => by simp [columbariumlaw13_PredPairs.j1] at h, fun _ _ _ _ _ _ r h => by simp [columbariumlaw13_PredPairs.j2] at h, fun _ _ _ _ _ _ _ _ r h => by simp [columbariumlaw13_PredPairs.l0] at h⟩
 | k + 1 => by
  obtain ⟨ih0, ih1, ih2, ih3⟩ := columbariumlaw13_PredPairs.mono_l k
  refine ⟨?_, ?_, ?_, ?_⟩
  ·intro y0 y1 y2 y3 y4 y5
   unfold columbariumlaw13_PredPairs.j0
   repeat' first
   | (with_reducible exact ih0 _ _ _ _ _ _)
   | (with_reducible exact ih1 _ _ _ _ _)
   | (with_reducible exact ih2 _ _ _ _ _ _)
   | (with_reducible exact ih3 _ _ _ _ _ _ _ _)
   | (with_reducible exact columbariumkeep_Cut.mono _ _ _ _ _ _ _ _ _)
   | (with_reducible exact columbariumkeep_Tame.mono _ _ _ _ _)
   | (with_reducible exact columbariumlaw13_known.mono _)
   | (with_reducible exact columbariumlaw13_nots.mono _ _ _ _ _ _ _ _ _)
   | (with_reducible exact pred_Eval.mono _ _ _ _ _ _ _ _ _ _ _)
   | (with_reducible exact LeO.refl _)
   | (with_reducible exact LeO.none _)
   | (with_reducible refine LeO.ite ?_ ?_)
   | (with_reducible refine LeO.bind ?_ (fun _ => ?_))
   | exact ih0 _ _ _ _ _ _
   | exact ih1 _ _ _ _ _
   | exact ih2 _ _ _ _ _ _
   | exact ih3 _ _ _ _ _ _ _ _
   | exact columbariumkeep_Cut.mono _ _ _ _ _ _ _ _ _
   | exact columbariumkeep_Tame.mono _ _ _ _ _
   | exact columbariumlaw13_known.mono _
   | exact columbariumlaw13_nots.mono _ _ _ _ _ _ _ _ _
   | exact pred_Eval.mono _ _ _ _ _ _ _ _ _ _ _
   | exact LeO.none _
   | refine LeO.ite ?_ ?_
   | refine LeO.bind ?_ (fun _ => ?_)
  ·intro y0 y1 y2 y3 y4
   unfold columbariumlaw13_PredPairs.j1
   repeat' first
   | (with_reducible exact ih0 _ _ _ _ _ _)
   | (with_reducible exact ih1 _ _ _ _ _)
   | (with_reducible exact ih2 _ _ _ _ _ _)
   | (with_reducible exact ih3 _ _ _ _ _ _ _ _)
   | (with_reducible exact columbariumkeep_Cut.mono _ _ _ _ _ _ _ _ _)
   | (with_reducible exact columbariumkeep_Tame.mono _ _ _ _ _)
   | (with_reducible exact columbariumlaw13_known.mono _)
   | (with_reducible exact columbariumlaw13_nots.mono _ _ _ _ _ _ _ _ _)
   | (with_reducible exact pred_Eval.mono _ _ _ _ _ _ _ _ _ _ _)
   | (with_reducible exact LeO.refl _)
   | (with_reducible exact LeO.none _)
   | (with_reducible refine LeO.ite ?_ ?_)
   | (with_reducible refine LeO.bind ?_ (fun _ => ?_))
   | exact ih0 _ _ _ _ _ _
   | exact ih1 _ _ _ _ _
   | exact ih2 _ _ _ _ _ _
   | exact ih3 _ _ _ _ _ _ _ _
   | exact columbariumkeep_Cut.mono _ _ _ _ _ _ _ _ _
   | exact columbariumkeep_Tame.mono _ _ _ _ _
   | exact columbariumlaw13_known.mono _
   | exact columbariumlaw13_nots.mono _ _ _ _ _ _ _ _ _
   | exact pred_Eval.mono _ _ _ _ _ _ _ _ _ _ _
   | exact LeO.none _
   | refine LeO.ite ?_ ?_
   | refine LeO.bind ?_ (fun _ => ?_)
  ·intro y0 y1 y2 y3 y4 y5
   unfold columbariumlaw13_PredPairs.j2
   repeat' first
   | (with_reducible exact ih0 _ _ _ _ _ _)
   | (with_reducible exact ih1 _ _ _ _ _)
   | (with_reducible exact ih2 _ _ _ _ _ _)
   | (with_reducible exact ih3 _ _ _ _ _ _ _ _)
   | (with_reducible exact columbariumkeep_Cut.mono _ _ _ _ _ _ _ _ _)
   | (with_reducible exact columbariumkeep_Tame.mono _ _ _ _ _)
   | (with_reducible exact columbariumlaw13_known.mono _)
   | (with_reducible exact columbariumlaw13_nots.mono _ _ _ _ _ _ _ _ _)
   | (with_reducible exact pred_Eval.mono _ _ _ _ _ _ _ _ _ _ _)
   | (with_reducible exact LeO.refl _)
   | (with_reducible exact LeO.none _)
   | (with_reducible refine LeO.ite ?_ ?_)
   | (with_reducible refine LeO.bind ?_ (fun _ => ?_))
   | exact ih0 _ _ _ _ _ _
   | exact ih1 _ _ _ _ _
   | exact ih2 _ _ _ _ _ _
   | exact ih3 _ _ _ _ _ _ _ _
   | exact columbariumkeep_Cut.mono _ _ _ _ _ _ _ _ _
   | exact columbariumkeep_Tame.mono _ _ _ _ _
   | exact columbariumlaw13_known.mono _
   | exact columbariumlaw13_nots.mono _ _ _ _ _ _ _ _ _
   | exact pred_Eval.mono _ _ _ _ _ _ _ _ _ _ _
   | exact LeO.none _
   | refine LeO.ite ?_ ?_
   | refine LeO.bind ?_ (fun _ => ?_)
  intro y0 y1 y2 y3 y4 y5 y6 y7
  unfold columbariumlaw13_PredPairs.l0
  repeat' first
  | (with_reducible exact ih0 _ _ _ _ _ _)
  | (with_reducible exact ih1 _ _ _ _ _)
  | (with_reducible exact ih2 _ _ _ _ _ _)
  | (with_reducible exact ih3 _ _ _ _ _ _ _ _)
  | (with_reducible exact columbariumkeep_Cut.mono _ _ _ _ _ _ _ _ _)
  | (with_reducible exact columbariumkeep_Tame.mono _ _ _ _ _)
  | (with_reducible exact columbariumlaw13_known.mono _)
  | (with_reducible exact columbariumlaw13_nots.mono _ _ _ _ _ _ _ _ _)
  | (with_reducible exact pred_Eval.mono _ _ _ _ _ _ _ _ _ _ _)
  | (with_reducible exact LeO.refl _)
  | (with_reducible exact LeO.none _)
  | (with_reducible refine LeO.ite ?_ ?_)
  | (with_reducible refine LeO.bind ?_ (fun _ => ?_))
  | exact ih0 _ _ _ _ _ _
  | exact ih1 _ _ _ _ _
  | exact ih2 _ _ _ _ _ _
  | exact ih3 _ _ _ _ _ _ _ _
  | exact columbariumkeep_Cut.mono _ _ _ _ _ _ _ _ _
  | exact columbariumkeep_Tame.mono _ _ _ _ _
  | exact columbariumlaw13_known.mono _
  | exact columbariumlaw13_nots.mono _ _ _ _ _ _ _ _ _
  | exact pred_Eval.mono _ _ _ _ _ _ _ _ _ _ _
  | exact LeO.none _
  | refine LeO.ite ?_ ?_
  | refine LeO.bind ?_ (fun _ => ?_)
theorem columbariumlaw13_PredPairs.mono : ∀ a0 a1 a2 a3 a4 a5 a6 a7 a8 a9 a10 a11 a12 a13 a14 a15 a16 a17 a18 k, LeO (columbariumlaw13_PredPairs.f k a0 a1 a2 a3 a4 a5 a6 a7 a8 a9 a10 a11 a12 a13 a14 a15 a16 a17 a18) (columbariumlaw13_PredPairs.f (k + 1) a0 a1 a2 a3 a4 a5 a6 a7 a8 a9 a10 a11 a12 a13 a14 a15 a16 a17 a18) := by
 intro a0 a1 a2 a3 a4 a5 a6 a7 a8 a9 a10 a11 a12 a13 a14 a15 a16 a17 a18 k
 obtain ⟨ih0, ih1, ih2, ih3⟩ := columbariumlaw13_PredPairs.mono_l k
 unfold columbariumlaw13_PredPairs.f
 repeat' first
   | (with_reducible exact ih0 _ _ _ _ _ _)
   | (with_reducible exact ih1 _ _ _ _ _)
   | (with_reducible exact ih2 _ _ _ _ _ _)
   | (with_reducible exact ih3 _ _ _ _ _ _ _ _)
   | (with_reducible exact columbariumkeep_Cut.mono _ _ _ _ _ _ _ _ _)
   | (with_reducible exact columbariumkeep_Tame.mono _ _ _ _ _)
   | (with_reducible exact columbariumlaw13_known.mono _)
   | (with_reducible exact columbariumlaw13_nots.mono _ _ _ _ _ _ _ _ _)
   | (with_reducible exact pred_Eval.mono _ _ _ _ _ _ _ _ _ _ _)
   | (with_reducible exact LeO.refl _)
   | (with_reducible exact LeO.none _)
   | (with_reducible refine LeO.ite ?_ ?_)
   | (with_reducible refine LeO.bind ?_ (fun _ => ?_))
   | exact ih0 _ _ _ _ _ _
   | exact ih1 _ _ _ _ _
   | exact ih2 _ _ _ _ _ _
   | exact ih3 _ _ _ _ _ _ _ _
   | exact columbariumkeep_Cut.mono _ _ _ _ _ _ _ _ _
   | exact columbariumkeep_Tame.mono _ _ _ _ _
   | exact columbariumlaw13_known.mono _
   | exact columbariumlaw13_nots.mono _ _ _ _ _ _ _ _ _
   | exact pred_Eval.mono _ _ _ _ _ _ _ _ _ _ _
   | exact LeO.none _
   | refine LeO.ite ?_ ?_
   | refine LeO.bind ?_ (fun _ => ?_)
def columbariumlaw13_PredPairs.T5 : Bool × List (List Nat × List Nat) := (true, [([], []), ([0], [0]), ([], []), ([2, 1], [2]), ([1, 3], [1, 3]), ([4], [4]), ([], []), ([6, 5, 3, 0, 1, 2, 3, 4, 5, 6], [5, 6])])
def columbariumlaw13_PredPairs.B5 : List Nat := [0, 1, 0, 7, 15, 31, 0, 127]
theorem columbariumlaw13_PredPairs.tab5 : rtab .any (opsOf Try.f4 5) = columbariumlaw13_PredPairs.T5 := by kernel_rfl
theorem columbariumlaw13_PredPairs.bits5 : waitsOk columbariumlaw13_PredPairs.T5.2 columbariumlaw13_PredPairs.B5 = true := by kernel_rfl
def columbariumlaw13_PredPairs.T6 : Bool × List (List Nat × List Nat) := (true, [([], []), ([0], [0]), ([], []), ([1, 2, 1], [1, 2]), ([], []), ([], []), ([4, 5, 3], [4, 5]), ([3, 6], [3, 6]), ([7, 6], [7]), ([8], [8]), ([8], [8]), ([9, 10, 8, 8], [8, 9, 10]), ([8], [8]), ([8], [8]), ([12, 13, 11, 8], [8, 12, 13]), ([14, 14, 8], [8, 14]), ([15], [15]), ([15], [15]), ([16, 17, 15, 15], [15, 16, 17]), ([15, 18, 8], [8, 15, 18]), ([11, 19, 8], [8, 11, 19]), ([8, 20], [8, 20])])
def columbariumlaw13_PredPairs.B6 : List Nat := [0, 1, 0, 7, 0, 0, 63, 127, 255, 511, 511, 2047, 511, 511, 16383, 32767, 65535, 65535, 262143, 524287, 1048575, 2097151]
theorem columbariumlaw13_PredPairs.tab6 : rtab .any (opsOf Try.f4 6) = columbariumlaw13_PredPairs.T6 := by kernel_rfl
theorem columbariumlaw13_PredPairs.bits6 : waitsOk columbariumlaw13_PredPairs.T6.2 columbariumlaw13_PredPairs.B6 = true := by kernel_rfl
end Go.Proofs.Ytalpcnomfebdiaa.QPredPairs
