-- Written by a program of this session (wip/myprint.py): the machine's side of a law
import Derived.Test.YtalpcnomfebdiaaQPredRulesx0
import Derived.Test.YtalpcnomfebdiaaQPredRulesx1
import Derived.Test.YtalpcnomfebdiaaQPredRulesx5
import Derived.Test.YtalpcnomfebdiaaQPredRulesx10
import Derived.Test.YtalpcnomfebdiaaQPredRulesx11
import Derived.Test.YtalpcnomfebdiaaQPredRulesx12
import Derived.Test.YtalpcnomfebdiaaQPredRulesx13
import Derived.Test.YtalpcnomfebdiaaQPredRulesx14
namespace Go.Proofs.Ytalpcnomfebdiaa.QPredRules
open Go.RowKit Go.Proofs.YtalpcnomfebdiaaW.PrintWords Go.Proofs.YtalpcnomfebdiaaW.PrintLast Go.Proofs.YtalpcnomfebdiaaW.PrintMore
attribute [local go_sem] max2_int min2_int max_two min_two max_three min_three max_four min_four   -- for this text's walks alone
set_option linter.unusedVariables false
set_option linter.unusedSimpArgs false

/-! ### columbariumlaw13_PredRules: function 6 -/
mutual
def columbariumlaw13_PredRules.j2 : Nat → Int → ByteArray → Option (Bool)
 | 0, _, _ => none
 | k + 1, x2, x3 => if (x3.size : Int) > 20 then (if 0 ≤ 20 then (if 20 ≤ (x3.size : Int) then (columbariumlaw13_PredRules.j3 k x2 (x3.extract 0 20)) else (none)) else (none)) else (columbariumlaw13_PredRules.j3 k x2 x3)
def columbariumlaw13_PredRules.j3 : Nat → Int → ByteArray → Option (Bool)
 | 0, _, _ => none
 | k + 1, x2, x3 => (columbariumkeep_Num.f (⟨#[110]⟩ : ByteArray) x2).bind fun bt489 => ((columbariumkeep_Str.f (⟨#[115]⟩ : ByteArray) x3).bind fun bt493 => ((columbariumkeep_At.f 5 0 (([(⟨bt489.1, bt489.2.1, bt489.2.2.1, bt489.2.2.2⟩ : S52), (⟨bt493.1, bt493.2.1, bt493.2.2.1, bt493.2.2.2⟩ : S52)] : List (S52)))).bind fun bt500 => ((pred_Eval.f k 4 (⟨#[110]⟩ : ByteArray) 7 0 (⟨#[]⟩ : ByteArray) ([] : List ByteArray) ([] : List (S25)) bt500.1 bt500.2.1 bt500.2.2).bind fun t506 => ((pred_Eval.f k 5 (⟨#[110]⟩ : ByteArray) x2 0 (⟨#[]⟩ : ByteArray) ([] : List ByteArray) ([] : List (S25)) bt500.1 bt500.2.1 bt500.2.2).bind fun t507 => ((pred_Eval.f k 7 (⟨#[115]⟩ : ByteArray) 0 0 (⟨#[]⟩ : ByteArray) (([x3] : List ByteArray)) ([] : List (S25)) bt500.1 bt500.2.1 bt500.2.2).bind fun t511 => ((columbariumbook_Within.f (Go.bits .and .i64 x2 7) 0 (x3.size : Int)).bind fun t512 => (if 0 ≤ t512 then (if t512 ≤ (x3.size : Int) then ((pred_Eval.f k 8 (⟨#[115]⟩ : ByteArray) 0 0 (x3.extract 0 (t512 : Int).toNat) ([] : List ByteArray) ([] : List (S25)) bt500.1 bt500.2.1 bt500.2.2).bind fun t513 => ((pred_Eval.f k 9 (⟨#[109]⟩ : ByteArray) 0 0 (⟨#[]⟩ : ByteArray) ([] : List ByteArray) ([] : List (S25)) bt500.1 bt500.2.1 bt500.2.2).bind fun t514 => ((pred_Eval.f k 10 (⟨#[]⟩ : ByteArray) 5 5 (⟨#[]⟩ : ByteArray) ([] : List ByteArray) ([] : List (S25)) bt500.1 bt500.2.1 bt500.2.2).bind fun t515 => ((pred_Eval.f k 6 (⟨#[110]⟩ : ByteArray) 0 0 x3 ([] : List ByteArray) ([] : List (S25)) bt500.1 bt500.2.1 bt500.2.2).bind fun t516 => (if (t506 == (decide (x2 < 7))) = true then (if t507 = true then (if t511 = true then (if t513 = true then (if t514 = true then (if t515 = true then (if t516 = true then (some false) else ((columbariumlaw13_known.f k).bind fun t517 => (some t517))) else (some false)) else (some false)) else (some false)) else (some false)) else (some false)) else (some false)))))) else (none)) else (none))))))))
def columbariumlaw13_PredRules.l0 : Nat → Int → ByteArray → List ByteArray → Int → Int → ByteArray → Int → Int → ByteArray → List ByteArray → List (S25) → Int → Int → List (S52) → Int → Int → List (S52) → Option (Bool)
 | 0, _, _, _, _, _, _, _, _, _, _, _, _, _, _, _, _, _ => none
 | k + 1, x2, x3, x10, x12, x453000, x453001, x453002, x453003, x453004, x453005, x453006, x471000, x471001, x471002, x481000, x481001, x481002 => if x12 < (x471002.length : Int) then (columbariumlaw13_PredRules.l1 k x2 x3 x10 x12 0 x453000 x453001 x453002 x453003 x453004 x453005 x453006 x471000 x471001 x471002 x481000 x481001 x481002) else ((pred_Eval.f k x453000 x453001 x453002 x453003 x453004 x453005 x453006 x471000 x471001 x471002).bind fun t487 => ((pred_Eval.f k x453000 x453001 x453002 x453003 x453004 x453005 x453006 x481000 x481001 x481002).bind fun t488 => (if (t487 != t488) = true then (some false) else (columbariumlaw13_PredRules.j2 k x2 x3))))
def columbariumlaw13_PredRules.l1 : Nat → Int → ByteArray → List ByteArray → Int → Int → Int → ByteArray → Int → Int → ByteArray → List ByteArray → List (S25) → Int → Int → List (S52) → Int → Int → List (S52) → Option (Bool)
 | 0, _, _, _, _, _, _, _, _, _, _, _, _, _, _, _, _, _, _ => none
 | k + 1, x2, x3, x10, x12, x13, x453000, x453001, x453002, x453003, x453004, x453005, x453006, x471000, x471001, x471002, x481000, x481001, x481002 => if x13 < (x10.length : Int) then (if 0 ≤ x13 then (if 0 ≤ x12 then (if x12 < (x471002.length : Int) then (if (rdOf ByteArray.empty x10 x13).toList = ((rd_T52 x471002 x12).f0).toList then (if x481002.length < 2932031007402 then (columbariumlaw13_PredRules.l1 k x2 x3 x10 x12 (wrap64 (x13 + 1)) x453000 x453001 x453002 x453003 x453004 x453005 x453006 x471000 x471001 x471002 x481000 x481001 (x481002 ++ [(⟨(rd_T52 x471002 x12).f0, (rd_T52 x471002 x12).f1, (rd_T52 x471002 x12).f2, (rd_T52 x471002 x12).f3⟩ : S52)])) else (none)) else (columbariumlaw13_PredRules.l1 k x2 x3 x10 x12 (wrap64 (x13 + 1)) x453000 x453001 x453002 x453003 x453004 x453005 x453006 x471000 x471001 x471002 x481000 x481001 x481002)) else (none)) else (none)) else (none)) else (columbariumlaw13_PredRules.l0 k x2 x3 x10 (wrap64 (x12 + 1)) x453000 x453001 x453002 x453003 x453004 x453005 x453006 x471000 x471001 x471002 x481000 x481001 x481002)
end
def columbariumlaw13_PredRules.f (k : Nat) (a0_0 : Int) (a0_1 : ByteArray) (a0_2 : Int) (a0_3 : Int) (a0_4 : ByteArray) (l0_5 : List ByteArray) (l0_6 : List (S25)) (a1_0 : Int) (a1_1 : Int) (l1_2 : List (S52)) (a2 : Int) (a3 : ByteArray) : Option (Bool) := (columbariumkeep_Cut.f k a0_0 a0_1 a0_2 a0_3 a0_4 l0_5 l0_6 5).bind fun bt454 => ((columbariumkeep_Tame.f k a1_0 a1_1 l1_2 3).bind fun bt465 => ((pred_Right.f k bt454.1 bt454.2.1 bt454.2.2.1 bt454.2.2.2.1 bt454.2.2.2.2.1 bt454.2.2.2.2.2.1 bt454.2.2.2.2.2.2).bind fun t471 => (if t471 = true then ((pred_Cols.f k bt454.1 bt454.2.1 bt454.2.2.1 bt454.2.2.2.1 bt454.2.2.2.2.1 bt454.2.2.2.2.2.1 bt454.2.2.2.2.2.2).bind fun t472 => ((columbariumkeep_At.f bt465.1 9 ([] : List (S52))).bind fun bt475 => (columbariumlaw13_PredRules.l0 k a2 a3 t472 0 bt454.1 bt454.2.1 bt454.2.2.1 bt454.2.2.2.1 bt454.2.2.2.2.1 bt454.2.2.2.2.2.1 bt454.2.2.2.2.2.2 bt465.1 bt465.2.1 bt465.2.2 bt475.1 bt475.2.1 bt475.2.2))) else (columbariumlaw13_PredRules.j2 k a2 a3))))
theorem columbariumlaw13_PredRules.mono_l : ∀ k, (∀ y0 y1, LeO (columbariumlaw13_PredRules.j2 k y0 y1) (columbariumlaw13_PredRules.j2 (k + 1) y0 y1)) ∧ (∀ y0 y1, LeO (columbariumlaw13_PredRules.j3 k y0 y1) (columbariumlaw13_PredRules.j3 (k + 1) y0 y1)) ∧ (∀ y0 y1 y2 y3 y4 y5 y6 y7 y8 y9 y10 y11 y12 y13 y14 y15 y16, LeO (columbariumlaw13_PredRules.l0 k y0 y1 y2 y3 y4 y5 y6 y7 y8 y9 y10 y11 y12 y13 y14 y15 y16) (columbariumlaw13_PredRules.l0 (k + 1) y0 y1 y2 y3 y4 y5 y6 y7 y8 y9 y10 y11 y12 y13 y14 y15 y16)) ∧ (∀ y0 y1 y2 y3 y4 y5 y6 y7 y8 y9 y10 y11 y12 y13 y14 y15 y16 y17, LeO (columbariumlaw13_PredRules.l1 k y0 y1 y2 y3 y4 y5 y6 y7 y8 y9 y10 y11 y12 y13 y14 y15 y16 y17) (columbariumlaw13_PredRules.l1 (k + 1) y0 y1 y2 y3 y4 y5 y6 y7 y8 y9 y10 y11 y12 y13 y14 y15 y16 y17))
 | 0 => ⟨fun _ _ r h => by simp [columbariumlaw13_PredRules.j2] at h, fun _ _ r h => by simp [columbariumlaw13_PredRules.j3] at h, fun _ _ _ _ _ _ _ _ _ _ _ _ _ _ _ _ _ r h => by simp [columbariumlaw13_PredRules.l0] at h, fun _ _ _ _ _ _ _ _ _ _ _ _ _ _ _ _ _ _ r h => by simp [columbariumlaw13_PredRules.l1] at h⟩
 | k + 1 => by
  obtain ⟨ih0, ih1, ih2, ih3⟩ := columbariumlaw13_PredRules.mono_l k
  refine ⟨?_, ?_, ?_, ?_⟩
  ·intro y0 y1
   unfold columbariumlaw13_PredRules.j2
   repeat' first
   | (with_reducible exact ih0 _ _)
   | (with_reducible exact ih1 _ _)
   | (with_reducible exact ih2 _ _ _ _ _ _ _ _ _ _ _ _ _ _ _ _ _)
   | (with_reducible exact ih3 _ _ _ _ _ _ _ _ _ _ _ _ _ _ _ _ _ _)
   | (with_reducible exact columbariumkeep_Cut.mono _ _ _ _ _ _ _ _ _)
   | (with_reducible exact columbariumkeep_Tame.mono _ _ _ _ _)
   | (with_reducible exact columbariumlaw13_known.mono _)
   | (with_reducible exact pred_Cols.mono _ _ _ _ _ _ _ _)
   | (with_reducible exact pred_Eval.mono _ _ _ _ _ _ _ _ _ _ _)
   | (with_reducible exact pred_Right.mono _ _ _ _ _ _ _ _)
   | (with_reducible exact LeO.refl _)
   | (with_reducible exact LeO.none _)
   | (with_reducible refine LeO.ite ?_ ?_)
   | (with_reducible refine LeO.bind ?_ (fun _ => ?_))
   | exact ih0 _ _
   | exact ih1 _ _
   | exact ih2 _ _ _ _ _ _ _ _ _ _ _ _ _ _ _ _ _
   | exact ih3 _ _ _ _ _ _ _ _ _ _ _ _ _ _ _ _ _ _
   | exact columbariumkeep_Cut.mono _ _ _ _ _ _ _ _ _
   | exact columbariumkeep_Tame.mono _ _ _ _ _
   | exact columbariumlaw13_known.mono _
   | exact pred_Cols.mono _ _ _ _ _ _ _ _
   | exact pred_Eval.mono _ _ _ _ _ _ _ _ _ _ _
   | exact pred_Right.mono _ _ _ _ _ _ _ _
   | exact LeO.none _
   | refine LeO.ite ?_ ?_
   | refine LeO.bind ?_ (fun _ => ?_)
  ·intro y0 y1
   unfold columbariumlaw13_PredRules.j3
   repeat' first
   | (with_reducible exact ih0 _ _)
   | (with_reducible exact ih1 _ _)
   | (with_reducible exact ih2 _ _ _ _ _ _ _ _ _ _ _ _ _ _ _ _ _)
   | (with_reducible exact ih3 _ _ _ _ _ _ _ _ _ _ _ _ _ _ _ _ _ _)
   | (with_reducible exact columbariumkeep_Cut.mono _ _ _ _ _ _ _ _ _)
   | (with_reducible exact columbariumkeep_Tame.mono _ _ _ _ _)
   | (with_reducible exact columbariumlaw13_known.mono _)
   | (with_reducible exact pred_Cols.mono _ _ _ _ _ _ _ _)
   | (with_reducible exact pred_Eval.mono _ _ _ _ _ _ _ _ _ _ _)
   | (with_reducible exact pred_Right.mono _ _ _ _ _ _ _ _)
   | (with_reducible exact LeO.refl _)
   | (with_reducible exact LeO.none _)
   | (with_reducible refine LeO.ite ?_ ?_)
   | (with_reducible refine LeO.bind ?_ (fun _ => ?_))
   | exact ih0 _ _
   | exact ih1 _ _
   | exact ih2 _ _ _ _ _ _ _ _ _ _ _ _ _ _ _ _ _
   | exact ih3 _ _ _ _ _ _ _ _ _ _ _ _ _ _ _ _ _ _
   | exact columbariumkeep_Cut.mono _ _ _ _ _ _ _ _ _
   | exact columbariumkeep_Tame.mono _ _ _ _ _
   | exact columbariumlaw13_known.mono _
   | exact pred_Cols.mono _ _ _ _ _ _ _ _
   | exact pred_Eval.mono _ _ _ _ _ _ _ _ _ _ _
   | exact pred_Right.mono _ _ _ _ _ _ _ _
   | exact LeO.none _
   | refine LeO.ite ?_ ?_
   | refine LeO.bind ?_ (fun _ => ?_)
  ·intro y0 y1 y2 y3 y4 y5 y6 y7 y8 y9 y10 y11 y12 y13 y14 y15 y16
   unfold columbariumlaw13_PredRules.l0
   repeat' first
   | (with_reducible exact ih0 _ _)
   | (with_reducible exact ih1 _ _)
   | (with_reducible exact ih2 _ _ _ _ _ _ _ _ _ _ _ _ _ _ _ _ _)
   | (with_reducible exact ih3 _ _ _ _ _ _ _ _ _ _ _ _ _ _ _ _ _ _)
   | (with_reducible exact columbariumkeep_Cut.mono _ _ _ _ _ _ _ _ _)
   | (with_reducible exact columbariumkeep_Tame.mono _ _ _ _ _)
   | (with_reducible exact columbariumlaw13_known.mono _)
   | (with_reducible exact pred_Cols.mono _ _ _ _ _ _ _ _)
   | (with_reducible exact pred_Eval.mono _ _ _ _ _ _ _ _ _ _ _)
   | (with_reducible exact pred_Right.mono _ _ _ _ _ _ _ _)
   | (with_reducible exact LeO.refl _)
   | (with_reducible exact LeO.none _)
   | (with_reducible refine LeO.ite ?_ ?_)
   | (with_reducible refine LeO.bind ?_ (fun _ => ?_))
   | exact ih0 _ _
   | exact ih1 _ _
   | exact ih2 _ _ _ _ _ _ _ _ _ _ _ _ _ _ _ _ _
   | exact ih3 _ _ _ _ _ _ _ _ _ _ _ _ _ _ _ _ _ _
   | exact columbariumkeep_Cut.mono _ _ _ _ _ _ _ _ _
   | exact columbariumkeep_Tame.mono _ _ _ _ _
   | exact columbariumlaw13_known.mono _
   | exact pred_Cols.mono _ _ _ _ _ _ _ _
   | exact pred_Eval.mono _ _ _ _ _ _ _ _ _ _ _
   | exact pred_Right.mono _ _ _ _ _ _ _ _
   | exact LeO.none _
   | refine LeO.ite ?_ ?_
   | refine LeO.bind ?_ (fun _ => ?_)
  intro y0 y1 y2 y3 y4 y5 y6 y7 y8 y9 y10 y11 y12 y13 y14 y15 y16 y17
  unfold columbariumlaw13_PredRules.l1
  repeat' first
  | (with_reducible exact ih0 _ _)
  | (with_reducible exact ih1 _ _)
  | (with_reducible exact ih2 _ _ _ _ _ _ _ _ _ _ _ _ _ _ _ _ _)
  | (with_reducible exact ih3 _ _ _ _ _ _ _ _ _ _ _ _ _ _ _ _ _ _)
  | (with_reducible exact columbariumkeep_Cut.mono _ _ _ _ _ _ _ _ _)
  | (with_reducible exact columbariumkeep_Tame.mono _ _ _ _ _)
  | (with_reducible exact columbariumlaw13_known.mono _)
  | (with_reducible exact pred_Cols.mono _ _ _ _ _ _ _ _)
  | (with_reducible exact pred_Eval.mono _ _ _ _ _ _ _ _ _ _ _)
  | (with_reducible exact pred_Right.mono _ _ _ _ _ _ _ _)
  | (with_reducible exact LeO.refl _)
  | (with_reducible exact LeO.none _)
  | (with_reducible refine LeO.ite ?_ ?_)
  | (with_reducible refine LeO.bind ?_ (fun _ => ?_))
  | exact ih0 _ _
  | exact ih1 _ _
  | exact ih2 _ _ _ _ _ _ _ _ _ _ _ _ _ _ _ _ _
  | exact ih3 _ _ _ _ _ _ _ _ _ _ _ _ _ _ _ _ _ _
  | exact columbariumkeep_Cut.mono _ _ _ _ _ _ _ _ _
  | exact columbariumkeep_Tame.mono _ _ _ _ _
  | exact columbariumlaw13_known.mono _
  | exact pred_Cols.mono _ _ _ _ _ _ _ _
  | exact pred_Eval.mono _ _ _ _ _ _ _ _ _ _ _
  | exact pred_Right.mono _ _ _ _ _ _ _ _
  | exact LeO.none _
  | refine LeO.ite ?_ ?_
  | refine LeO.bind ?_ (fun _ => ?_)
theorem columbariumlaw13_PredRules.mono : ∀ a0 a1 a2 a3 a4 a5 a6 a7 a8 a9 a10 a11 k, LeO (columbariumlaw13_PredRules.f k a0 a1 a2 a3 a4 a5 a6 a7 a8 a9 a10 a11) (columbariumlaw13_PredRules.f (k + 1) a0 a1 a2 a3 a4 a5 a6 a7 a8 a9 a10 a11) := by
 intro a0 a1 a2 a3 a4 a5 a6 a7 a8 a9 a10 a11 k
 obtain ⟨ih0, ih1, ih2, ih3⟩ := columbariumlaw13_PredRules.mono_l k
 unfold columbariumlaw13_PredRules.f
 repeat' first
   | (with_reducible exact ih0 _ _)
   | (with_reducible exact ih1 _ _)
   | (with_reducible exact ih2 _ _ _ _ _ _ _ _ _ _ _ _ _ _ _ _ _)
   | (with_reducible exact ih3 _ _ _ _ _ _ _ _ _ _ _ _ _ _ _ _ _ _)
   | (with_reducible exact columbariumkeep_Cut.mono _ _ _ _ _ _ _ _ _)
   | (with_reducible exact columbariumkeep_Tame.mono _ _ _ _ _)
   | (with_reducible exact columbariumlaw13_known.mono _)
   | (with_reducible exact pred_Cols.mono _ _ _ _ _ _ _ _)
   | (with_reducible exact pred_Eval.mono _ _ _ _ _ _ _ _ _ _ _)
   | (with_reducible exact pred_Right.mono _ _ _ _ _ _ _ _)
   | (with_reducible exact LeO.refl _)
   | (with_reducible exact LeO.none _)
   | (with_reducible refine LeO.ite ?_ ?_)
   | (with_reducible refine LeO.bind ?_ (fun _ => ?_))
   | exact ih0 _ _
   | exact ih1 _ _
   | exact ih2 _ _ _ _ _ _ _ _ _ _ _ _ _ _ _ _ _
   | exact ih3 _ _ _ _ _ _ _ _ _ _ _ _ _ _ _ _ _ _
   | exact columbariumkeep_Cut.mono _ _ _ _ _ _ _ _ _
   | exact columbariumkeep_Tame.mono _ _ _ _ _
   | exact columbariumlaw13_known.mono _
   | exact pred_Cols.mono _ _ _ _ _ _ _ _
   | exact pred_Eval.mono _ _ _ _ _ _ _ _ _ _ _
   | exact pred_Right.mono _ _ _ _ _ _ _ _
   | exact LeO.none _
   | refine LeO.ite ?_ ?_
   | refine LeO.bind ?_ (fun _ => ?_)
def columbariumlaw13_PredRules.T12 : Bool × List (List Nat × List Nat) := (true, [([], []), ([], []), ([0, 1], [0, 1]), ([2], [2]), ([], []), ([4], [4]), ([], []), ([5, 6], [5, 6]), ([7], [7]), ([8], [8]), ([3, 9], [3, 9])])
def columbariumlaw13_PredRules.B12 : List Nat := [0, 0, 3, 7, 0, 16, 0, 112, 240, 496, 1023]
theorem columbariumlaw13_PredRules.tab12 : rtab .any (opsOf Try.f6 12) = columbariumlaw13_PredRules.T12 := by kernel_rfl
theorem columbariumlaw13_PredRules.bits12 : waitsOk columbariumlaw13_PredRules.T12.2 columbariumlaw13_PredRules.B12 = true := by kernel_rfl
def columbariumlaw13_PredRules.T13 : Bool × List (List Nat × List Nat) := (true, [([], []), ([0], [0]), ([], []), ([2], [2]), ([], []), ([3, 4], [3, 4]), ([5], [5]), ([6], [6]), ([1, 7], [1, 7]), ([0, 1, 2, 3, 4, 5, 6, 7, 8], []), ([9, 8, 8, 0, 1, 2, 3, 4, 5, 6, 7, 8], [8, 9])])
def columbariumlaw13_PredRules.B13 : List Nat := [0, 1, 0, 4, 0, 28, 60, 124, 255, 511, 1023]
theorem columbariumlaw13_PredRules.tab13 : rtab .any (opsOf Try.f6 13) = columbariumlaw13_PredRules.T13 := by kernel_rfl
theorem columbariumlaw13_PredRules.bits13 : waitsOk columbariumlaw13_PredRules.T13.2 columbariumlaw13_PredRules.B13 = true := by kernel_rfl
def columbariumlaw13_PredRules.T22 : Bool × List (List Nat × List Nat) := (true, [([], []), ([], []), ([1], [1]), ([], []), ([3], [3]), ([2, 4], [2, 4]), ([0, 5], [0, 5]), ([6], [6]), ([], []), ([7, 8, 5], [7, 8]), ([9, 9, 0, 1, 2, 3, 4, 5, 6, 7, 8, 9], [9])])
def columbariumlaw13_PredRules.B22 : List Nat := [0, 0, 2, 0, 8, 30, 63, 127, 0, 511, 1023]
theorem columbariumlaw13_PredRules.tab22 : rtab .any (opsOf Try.f6 22) = columbariumlaw13_PredRules.T22 := by kernel_rfl
theorem columbariumlaw13_PredRules.bits22 : waitsOk columbariumlaw13_PredRules.T22.2 columbariumlaw13_PredRules.B22 = true := by kernel_rfl
end Go.Proofs.Ytalpcnomfebdiaa.QPredRules
