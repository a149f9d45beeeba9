-- Written by a program of this session (wip/myprint.py): the machine's side of a law
import Derived.Test.YtalpcnomfebdiaaQPredNormalx0
import Derived.Test.YtalpcnomfebdiaaQPredNormalx1
import Derived.Test.YtalpcnomfebdiaaQPredNormalx5
import Derived.Test.YtalpcnomfebdiaaQPredNormalx7
import Derived.Test.YtalpcnomfebdiaaQPredNormalx9
import Derived.Test.YtalpcnomfebdiaaQPredNormalx10
import Derived.Test.YtalpcnomfebdiaaQPredNormalx11
import Derived.Test.YtalpcnomfebdiaaQPredNormalx12
import Derived.Test.YtalpcnomfebdiaaQPredNormalx13
import Derived.Test.YtalpcnomfebdiaaQPredNormalx14
namespace Go.Proofs.Ytalpcnomfebdiaa.QPredNormal
open Go.RowKit Go.Proofs.YtalpcnomfebdiaaW.PrintWords Go.Proofs.YtalpcnomfebdiaaW.PrintLast Go.Proofs.YtalpcnomfebdiaaW.PrintMore
attribute [local go_sem] max2_int min2_int max_two min_two max_three min_three max_four min_four   -- for this text's walks alone
set_option linter.unusedVariables false
set_option linter.unusedSimpArgs false

/-! ### columbariumlaw13_PredNormal: function 3 -/
mutual
def columbariumlaw13_PredNormal.j0 : Nat → List (S36) → Bool → Int → ByteArray → Int → Int → ByteArray → List ByteArray → List (S25) → Int → ByteArray → Int → Int → ByteArray → List ByteArray → List (S25) → Int → ByteArray → Int → Int → ByteArray → List ByteArray → List (S25) → Option (Bool)
 | 0, _, _, _, _, _, _, _, _, _, _, _, _, _, _, _, _, _, _, _, _, _, _, _ => none
 | k + 1, x1, x37, x465000, x465001, x465002, x465003, x465004, x465005, x465006, x502000, x502001, x502002, x502003, x502004, x502005, x502006, x517000, x517001, x517002, x517003, x517004, x517005, x517006 => if x37 = true then (some false) else ((pred_Right.f k 3 (⟨#[]⟩ : ByteArray) 0 0 (⟨#[]⟩ : ByteArray) ([] : List ByteArray) (([(⟨x465000, x465001, x465002, x465003, x465004, x465005, x465006⟩ : S25)] : List (S25)))).bind fun t533 => ((columbariumkeep_Short.f k x1 10).bind fun t534 => (columbariumlaw13_PredNormal.l0 k t534 t533 0 x465000 x465001 x465002 x465003 x465004 x465005 x465006 x502000 x502001 x502002 x502003 x502004 x502005 x502006 x517000 x517001 x517002 x517003 x517004 x517005 x517006)))
def columbariumlaw13_PredNormal.l0 : Nat → List (S36) → Bool → Int → Int → ByteArray → Int → Int → ByteArray → List ByteArray → List (S25) → Int → ByteArray → Int → Int → ByteArray → List ByteArray → List (S25) → Int → ByteArray → Int → Int → ByteArray → List ByteArray → List (S25) → Option (Bool)
 | 0, _, _, _, _, _, _, _, _, _, _, _, _, _, _, _, _, _, _, _, _, _, _, _, _ => none
 | k + 1, x1, x7, x8, x465000, x465001, x465002, x465003, x465004, x465005, x465006, x502000, x502001, x502002, x502003, x502004, x502005, x502006, x517000, x517001, x517002, x517003, x517004, x517005, x517006 => if x8 < (x1.length : Int) then (if 0 ≤ x8 then ((columbariumkeep_Tame.f k ((rd_T36 x1 x8).f0) ((rd_T36 x1 x8).f1) ((rd_T36 x1 x8).f2) x8).bind fun bt539 => ((pred_Eval.f k x465000 x465001 x465002 x465003 x465004 x465005 x465006 bt539.1 bt539.2.1 bt539.2.2).bind fun t545 => ((pred_Eval.f k x502000 x502001 x502002 x502003 x502004 x502005 x502006 bt539.1 bt539.2.1 bt539.2.2).bind fun t546 => (if (t545 != t546) = true then (some false) else ((pred_Eval.f k x465000 x465001 x465002 x465003 x465004 x465005 x465006 bt539.1 bt539.2.1 bt539.2.2).bind fun t547 => ((pred_Eval.f k x517000 x517001 x517002 x517003 x517004 x517005 x517006 bt539.1 bt539.2.1 bt539.2.2).bind fun t548 => (if (t547 == t548) = true then (some false) else (if x7 = true then ((columbariumlaw13_flat.f k x517000 x517001 x517002 x517003 x517004 x517005 x517006 0).bind fun t549 => (if t549 = true then (columbariumlaw13_PredNormal.l0 k x1 x7 (wrap64 (x8 + 1)) x465000 x465001 x465002 x465003 x465004 x465005 x465006 x502000 x502001 x502002 x502003 x502004 x502005 x502006 x517000 x517001 x517002 x517003 x517004 x517005 x517006) else (some false))) else (columbariumlaw13_PredNormal.l0 k x1 x7 (wrap64 (x8 + 1)) x465000 x465001 x465002 x465003 x465004 x465005 x465006 x502000 x502001 x502002 x502003 x502004 x502005 x502006 x517000 x517001 x517002 x517003 x517004 x517005 x517006))))))))) else (none)) else ((columbariumlaw13_known.f k).bind fun t537 => (some t537))
end
def columbariumlaw13_PredNormal.f (k : Nat) (a0_0 : Int) (a0_1 : ByteArray) (a0_2 : Int) (a0_3 : Int) (a0_4 : ByteArray) (l0_5 : List ByteArray) (l0_6 : List (S25)) (l1 : List (S36)) : Option (Bool) := (columbariumkeep_Cut.f k a0_0 a0_1 a0_2 a0_3 a0_4 l0_5 l0_6 5).bind fun bt465 => ((pred_Right.f k bt465.1 bt465.2.1 bt465.2.2.1 bt465.2.2.2.1 bt465.2.2.2.2.1 bt465.2.2.2.2.2.1 bt465.2.2.2.2.2.2).bind fun t476 => (if t476 = true then ((pred_Normal.f k bt465.1 bt465.2.1 bt465.2.2.1 bt465.2.2.2.1 bt465.2.2.2.2.1 bt465.2.2.2.2.2.1 bt465.2.2.2.2.2.2).bind fun bt490 => ((pred_Normal.f k 3 (⟨#[]⟩ : ByteArray) 0 0 (⟨#[]⟩ : ByteArray) ([] : List ByteArray) (([(⟨bt465.1, bt465.2.1, bt465.2.2.1, bt465.2.2.2.1, bt465.2.2.2.2.1, bt465.2.2.2.2.2.1, bt465.2.2.2.2.2.2⟩ : S25)] : List (S25)))).bind fun bt505 => ((pred_Normal.f k bt490.1 bt490.2.1 bt490.2.2.1 bt490.2.2.2.1 bt490.2.2.2.2.1 bt490.2.2.2.2.2.1 bt490.2.2.2.2.2.2).bind fun bt517 => ((columbariumkeep_Pred.f k bt517.1 bt517.2.1 bt517.2.2.1 bt517.2.2.2.1 bt517.2.2.2.2.1 bt517.2.2.2.2.2.1 bt517.2.2.2.2.2.2 bt490.1 bt490.2.1 bt490.2.2.1 bt490.2.2.2.1 bt490.2.2.2.2.1 bt490.2.2.2.2.2.1 bt490.2.2.2.2.2.2).bind fun t528 => (if t528 = true then ((columbariumlaw13_flat.f k bt490.1 bt490.2.1 bt490.2.2.1 bt490.2.2.2.1 bt490.2.2.2.2.1 bt490.2.2.2.2.2.1 bt490.2.2.2.2.2.2 0).bind fun t529 => (columbariumlaw13_PredNormal.j0 k l1 (!t529) bt465.1 bt465.2.1 bt465.2.2.1 bt465.2.2.2.1 bt465.2.2.2.2.1 bt465.2.2.2.2.2.1 bt465.2.2.2.2.2.2 bt490.1 bt490.2.1 bt490.2.2.1 bt490.2.2.2.1 bt490.2.2.2.2.1 bt490.2.2.2.2.2.1 bt490.2.2.2.2.2.2 bt505.1 bt505.2.1 bt505.2.2.1 bt505.2.2.2.1 bt505.2.2.2.2.1 bt505.2.2.2.2.2.1 bt505.2.2.2.2.2.2)) else (columbariumlaw13_PredNormal.j0 k l1 true bt465.1 bt465.2.1 bt465.2.2.1 bt465.2.2.2.1 bt465.2.2.2.2.1 bt465.2.2.2.2.2.1 bt465.2.2.2.2.2.2 bt490.1 bt490.2.1 bt490.2.2.1 bt490.2.2.2.1 bt490.2.2.2.2.1 bt490.2.2.2.2.2.1 bt490.2.2.2.2.2.2 bt505.1 bt505.2.1 bt505.2.2.1 bt505.2.2.2.1 bt505.2.2.2.2.1 bt505.2.2.2.2.2.1 bt505.2.2.2.2.2.2)))))) else ((pred_Normal.f k bt465.1 bt465.2.1 bt465.2.2.1 bt465.2.2.2.1 bt465.2.2.2.2.1 bt465.2.2.2.2.2.1 bt465.2.2.2.2.2.2).bind fun bt477 => ((columbariumkeep_Pred.f k bt477.1 bt477.2.1 bt477.2.2.1 bt477.2.2.2.1 bt477.2.2.2.2.1 bt477.2.2.2.2.2.1 bt477.2.2.2.2.2.2 bt465.1 bt465.2.1 bt465.2.2.1 bt465.2.2.2.1 bt465.2.2.2.2.1 bt465.2.2.2.2.2.1 bt465.2.2.2.2.2.2).bind fun t488 => (if t488 = true then ((columbariumlaw13_known.f k).bind fun t489 => (some t489)) else (some false))))))
theorem columbariumlaw13_PredNormal.mono_l : ∀ k, (∀ y0 y1 y2 y3 y4 y5 y6 y7 y8 y9 y10 y11 y12 y13 y14 y15 y16 y17 y18 y19 y20 y21 y22, LeO (columbariumlaw13_PredNormal.j0 k y0 y1 y2 y3 y4 y5 y6 y7 y8 y9 y10 y11 y12 y13 y14 y15 y16 y17 y18 y19 y20 y21 y22) (columbariumlaw13_PredNormal.j0 (k + 1) y0 y1 y2 y3 y4 y5 y6 y7 y8 y9 y10 y11 y12 y13 y14 y15 y16 y17 y18 y19 y20 y21 y22)) ∧ (∀ y0 y1 y2 y3 y4 y5 y6 y7 y8 y9 y10 y11 y12 y13 y14 y15 y16 y17 y18 y19 y20 y21 y22 y23, LeO (columbariumlaw13_PredNormal.l0 k y0 y1 y2 y3 y4 y5 y6 y7 y8 y9 y10 y11 y12 y13 y14 y15 y16 y17 y18 y19 y20 y21 y22 y23) (columbariumlaw13_PredNormal.l0 (k + 1) y0 y1 y2 y3 y4 y5 y6 y7 y8 y9 y10 y11 y12 y13 y14 y15 y16 y17 y18 y19 y20 y21 y22 y23))
 | 0 => ⟨fun _ _ _ _ _ _ _ _ _ _ _ _ _ _ _ _ _ _ _ _ _ _ _ r h => by simp [columbariumlaw13_PredNormal.j0] at h, fun _ _ _ _ _ _ _ _ _ _ _ _ _ _ _ _ _ _ _ _ _ _ _ _ r h => by simp [columbariumlaw13_PredNormal.l0] at h⟩
 | k + 1 => by
  obtain ⟨ih0, ih1⟩ := columbariumlaw13_PredNormal.mono_l k
  refine ⟨?_, ?_⟩
  ·intro y0 y1 y2 y3 y4 y5 y6 y7 y8 y9 y10 y11 y12 y13 y14 y15 y16 y17 y18 y19 y20 y21 y22
   unfold columbariumlaw13_PredNormal.j0
   repeat' first
   | (with_reducible exact ih0 _ _ _ _ _ _ _ _ _ _ _ _ _ _ _ _ _ _ _ _ _ _ _)
   | (with_reducible exact ih1 _ _ _ _ _ _ _ _ _ _ _ _ _ _ _ _ _ _ _ _ _ _ _ _)
   | (with_reducible exact columbariumkeep_Cut.mono _ _ _ _ _ _ _ _ _)
   | (with_reducible exact columbariumkeep_Pred.mono _ _ _ _ _ _ _ _ _ _ _ _ _ _ _)
   | (with_reducible exact columbariumkeep_Short.mono _ _ _)
   | (with_reducible exact columbariumkeep_Tame.mono _ _ _ _ _)
   | (with_reducible exact columbariumlaw13_flat.mono _ _ _ _ _ _ _ _ _)
   | (with_reducible exact columbariumlaw13_known.mono _)
   | (with_reducible exact pred_Eval.mono _ _ _ _ _ _ _ _ _ _ _)
   | (with_reducible exact pred_Normal.mono _ _ _ _ _ _ _ _)
   | (with_reducible exact pred_Right.mono _ _ _ _ _ _ _ _)
   | (with_reducible exact LeO.refl _)
   | (with_reducible exact LeO.none _)
   | (with_reducible refine LeO.ite ?_ ?_)
   | (with_reducible refine LeO.bind ?_ (fun _ => ?_))
   | exact ih0 _ _ _ _ _ _ _ _ _ _ _ _ _ _ _ _ _ _ _ _ _ _ _
   | exact ih1 _ _ _ _ _ _ _ _ _ _ _ _ _ _ _ _ _ _ _ _ _ _ _ _
   | exact columbariumkeep_Cut.mono _ _ _ _ _ _ _ _ _
   | exact columbariumkeep_Pred.mono _ _ _ _ _ _ _ _ _ _ _ _ _ _ _
   | exact columbariumkeep_Short.mono _ _ _
   | exact columbariumkeep_Tame.mono _ _ _ _ _
   | exact columbariumlaw13_flat.mono _ _ _ _ _ _ _ _ _
   | exact columbariumlaw13_known.mono _
   | exact pred_Eval.mono _ _ _ _ _ _ _ _ _ _ _
   | exact pred_Normal.mono _ _ _ _ _ _ _ _
   | exact pred_Right.mono _ _ _ _ _ _ _ _
   | exact LeO.none _
   | refine LeO.ite ?_ ?_
   | refine LeO.bind ?_ (fun _ => ?_)
  ·intro y0 y1 y2 y3 y4 y5 y6 y7 y8 y9 y10 y11 y12 y13 y14 y15 y16 y17 y18 y19 y20 y21 y22 y23
   unfold columbariumlaw13_PredNormal.l0
   repeat' first
   | (with_reducible exact ih0 _ _ _ _ _ _ _ _ _ _ _ _ _ _ _ _ _ _ _ _ _ _ _)
   | (with_reducible exact ih1 _ _ _ _ _ _ _ _ _ _ _ _ _ _ _ _ _ _ _ _ _ _ _ _)
   | (with_reducible exact columbariumkeep_Cut.mono _ _ _ _ _ _ _ _ _)
   | (with_reducible exact columbariumkeep_Pred.mono _ _ _ _ _ _ _ _ _ _ _ _ _ _ _)
   | (with_reducible exact columbariumkeep_Short.mono _ _ _)
   | (with_reducible exact columbariumkeep_Tame.mono _ _ _ _ _)
   | (with_reducible exact columbariumlaw13_flat.mono _ _ _ _ _ _ _ _ _)
   | (with_reducible exact columbariumlaw13_known.mono _)
   | (with_reducible exact pred_Eval.mono _ _ _ _ _ _ _ _ _ _ _)
   | (with_reducible exact pred_Normal.mono _ _ _ _ _ _ _ _)
   | (with_reducible exact pred_Right.mono _ _ _ _ _ _ _ _)
   | (with_reducible exact LeO.refl _)
   | (with_reducible exact LeO.none _)
   | (with_reducible refine LeO.ite ?_ ?_)
   | (with_reducible refine LeO.bind ?_ (fun _ => ?_))
   | exact ih0 _ _ _ _ _ _ _ _ _ _ _ _ _ _ _ _ _ _ _ _ _ _ _
   | exact ih1 _ _ _ _ _ _ _ _ _ _ _ _ _ _ _ _ _ _ _ _ _ _ _ _
   | exact columbariumkeep_Cut.mono _ _ _ _ _ _ _ _ _
   | exact columbariumkeep_Pred.mono _ _ _ _ _ _ _ _ _ _ _ _ _ _ _
   | exact columbariumkeep_Short.mono _ _ _
   | exact columbariumkeep_Tame.mono _ _ _ _ _
   | exact columbariumlaw13_flat.mono _ _ _ _ _ _ _ _ _
   | exact columbariumlaw13_known.mono _
   | exact pred_Eval.mono _ _ _ _ _ _ _ _ _ _ _
   | exact pred_Normal.mono _ _ _ _ _ _ _ _
   | exact pred_Right.mono _ _ _ _ _ _ _ _
   | exact LeO.none _
   | refine LeO.ite ?_ ?_
   | refine LeO.bind ?_ (fun _ => ?_)
theorem columbariumlaw13_PredNormal.mono : ∀ a0 a1 a2 a3 a4 a5 a6 a7 k, LeO (columbariumlaw13_PredNormal.f k a0 a1 a2 a3 a4 a5 a6 a7) (columbariumlaw13_PredNormal.f (k + 1) a0 a1 a2 a3 a4 a5 a6 a7) := by
 intro a0 a1 a2 a3 a4 a5 a6 a7 k
 obtain ⟨ih0, ih1⟩ := columbariumlaw13_PredNormal.mono_l k
 unfold columbariumlaw13_PredNormal.f
 repeat' first
   | (with_reducible exact ih0 _ _ _ _ _ _ _ _ _ _ _ _ _ _ _ _ _ _ _ _ _ _ _)
   | (with_reducible exact ih1 _ _ _ _ _ _ _ _ _ _ _ _ _ _ _ _ _ _ _ _ _ _ _ _)
   | (with_reducible exact columbariumkeep_Cut.mono _ _ _ _ _ _ _ _ _)
   | (with_reducible exact columbariumkeep_Pred.mono _ _ _ _ _ _ _ _ _ _ _ _ _ _ _)
   | (with_reducible exact columbariumkeep_Short.mono _ _ _)
   | (with_reducible exact columbariumkeep_Tame.mono _ _ _ _ _)
   | (with_reducible exact columbariumlaw13_flat.mono _ _ _ _ _ _ _ _ _)
   | (with_reducible exact columbariumlaw13_known.mono _)
   | (with_reducible exact pred_Eval.mono _ _ _ _ _ _ _ _ _ _ _)
   | (with_reducible exact pred_Normal.mono _ _ _ _ _ _ _ _)
   | (with_reducible exact pred_Right.mono _ _ _ _ _ _ _ _)
   | (with_reducible exact LeO.refl _)
   | (with_reducible exact LeO.none _)
   | (with_reducible refine LeO.ite ?_ ?_)
   | (with_reducible refine LeO.bind ?_ (fun _ => ?_))
   | exact ih0 _ _ _ _ _ _ _ _ _ _ _ _ _ _ _ _ _ _ _ _ _ _ _
   | exact ih1 _ _ _ _ _ _ _ _ _ _ _ _ _ _ _ _ _ _ _ _ _ _ _ _
   | exact columbariumkeep_Cut.mono _ _ _ _ _ _ _ _ _
   | exact columbariumkeep_Pred.mono _ _ _ _ _ _ _ _ _ _ _ _ _ _ _
   | exact columbariumkeep_Short.mono _ _ _
   | exact columbariumkeep_Tame.mono _ _ _ _ _
   | exact columbariumlaw13_flat.mono _ _ _ _ _ _ _ _ _
   | exact columbariumlaw13_known.mono _
   | exact pred_Eval.mono _ _ _ _ _ _ _ _ _ _ _
   | exact pred_Normal.mono _ _ _ _ _ _ _ _
   | exact pred_Right.mono _ _ _ _ _ _ _ _
   | exact LeO.none _
   | refine LeO.ite ?_ ?_
   | refine LeO.bind ?_ (fun _ => ?_)
def columbariumlaw13_PredNormal.T3 : Bool × List (List Nat × List Nat) := (true, [([], []), ([0], [0]), ([], []), ([1, 2, 1], [1, 2]), ([3, 3], [3]), ([4, 4], [4]), ([4, 5], [4, 5]), ([6, 5, 0, 1, 2, 3, 4, 5, 6], [6])])
def columbariumlaw13_PredNormal.B3 : List Nat := [0, 1, 0, 7, 15, 31, 63, 127]
theorem columbariumlaw13_PredNormal.tab3 : rtab .any (opsOf Try.f3 3) = columbariumlaw13_PredNormal.T3 := by kernel_rfl
theorem columbariumlaw13_PredNormal.bits3 : waitsOk columbariumlaw13_PredNormal.T3.2 columbariumlaw13_PredNormal.B3 = true := by kernel_rfl
def columbariumlaw13_PredNormal.T6 : Bool × List (List Nat × List Nat) := (true, [([], []), ([0], [0]), ([], []), ([1, 2, 1], [1, 2]), ([3], [3]), ([4, 3], [4]), ([5], [5]), ([6, 5, 5], [5, 6]), ([7, 5], [5, 7]), ([5, 8], [5, 8])])
def columbariumlaw13_PredNormal.B6 : List Nat := [0, 1, 0, 7, 15, 31, 63, 127, 255, 511]
theorem columbariumlaw13_PredNormal.tab6 : rtab .any (opsOf Try.f3 6) = columbariumlaw13_PredNormal.T6 := by kernel_rfl
theorem columbariumlaw13_PredNormal.bits6 : waitsOk columbariumlaw13_PredNormal.T6.2 columbariumlaw13_PredNormal.B6 = true := by kernel_rfl
def columbariumlaw13_PredNormal.T14 : Bool × List (List Nat × List Nat) := (true, [([], []), ([], []), ([0, 1], [0, 1]), ([], []), ([], []), ([3, 4, 2], [3, 4]), ([2, 5], [2, 5]), ([6, 5], [6]), ([7], [7]), ([7], [7]), ([8, 9, 7, 7], [7, 8, 9]), ([7], [7]), ([7], [7]), ([11, 12, 10, 7], [7, 11, 12]), ([10, 13, 7], [7, 10, 13]), ([7, 14], [7, 14]), ([15, 13], [15]), ([16], [16]), ([17, 16, 16], [16, 17]), ([18], [18]), ([19, 18, 18], [18, 19]), ([20, 18], [18, 20]), ([18, 21, 16], [16, 18, 21]), ([16, 22], [16, 22])])
def columbariumlaw13_PredNormal.B14 : List Nat := [0, 0, 3, 0, 0, 31, 63, 127, 255, 255, 1023, 255, 255, 8191, 16383, 32767, 65535, 131071, 262143, 524287, 1048575, 2097151, 4194303, 8388607]
theorem columbariumlaw13_PredNormal.tab14 : rtab .any (opsOf Try.f3 14) = columbariumlaw13_PredNormal.T14 := by kernel_rfl
theorem columbariumlaw13_PredNormal.bits14 : waitsOk columbariumlaw13_PredNormal.T14.2 columbariumlaw13_PredNormal.B14 = true := by kernel_rfl
set_option maxHeartbeats 8000000 in
set_option maxRecDepth 100000 in
theorem columbariumlaw13_PredNormal.calls (k : Nat) (a0_0 : Int) (a0_1 : ByteArray) (a0_2 : Int) (a0_3 : Int) (a0_4 : ByteArray) (A0_5 : Option Addr) (c0_5 : Nat) (l0_5 : List ByteArray) (A0_6 : Option Addr) (c0_6 : Nat) (l0_6 : List (S25)) (A1 : Option Addr) (c1 : Nat) (l1 : List (S36)) (r : Bool) (w : World) (hr0_5 : Kd.C Kd.string w A0_5 l0_5.length l0_5) (hc0_5 : l0_5.length ≤ c0_5) (hr0_6 : Kd.C k25 w A0_6 l0_6.length l0_6) (hc0_6 : l0_6.length ≤ c0_6) (hr1 : Kd.C k36 w A1 l1.length l1) (hc1 : l1.length ≤ c1) (hrt_ : Aside0 (r = true)) (h : columbariumlaw13_PredNormal.f k a0_0 a0_1 a0_2 a0_3 a0_4 l0_5 l0_6 l1 = some r) :
  Calls Try.prog 3 #[.agg #[.int .i64 a0_0, .string a0_1, .int .i64 a0_2, .int .i64 a0_3, .string a0_4, .slice A0_5 l0_5.length c0_5, .slice A0_6 l0_6.length c0_6], .slice A1 l1.length c1] w fun e w' => e = .returned (.bool r) ∧ Below w.heap.size w w' := by
 have hu25 := Try.underlying25
 have hu36 := Try.underlying36
 have HR0_5 := zM hr0_5
 have HC0_5 := zM hc0_5
 clear hr0_5 hc0_5
 have HR0_6 := zM hr0_6
 have HC0_6 := zM hc0_6
 clear hr0_6 hc0_6
 have HR1 := zM hr1
 have HC1 := zM hc1
 clear hr1 hc1
 have HB := zM (Below.refl w.heap.size w)
 have H : ((columbariumkeep_Cut.f k a0_0 a0_1 a0_2 a0_3 a0_4 l0_5 l0_6 5).bind fun bt465 => ((pred_Right.f k bt465.1 bt465.2.1 bt465.2.2.1 bt465.2.2.2.1 bt465.2.2.2.2.1 bt465.2.2.2.2.2.1 bt465.2.2.2.2.2.2).bind fun t476 => (if t476 = true then ((pred_Normal.f k bt465.1 bt465.2.1 bt465.2.2.1 bt465.2.2.2.1 bt465.2.2.2.2.1 bt465.2.2.2.2.2.1 bt465.2.2.2.2.2.2).bind fun bt490 => ((pred_Normal.f k 3 (⟨#[]⟩ : ByteArray) 0 0 (⟨#[]⟩ : ByteArray) ([] : List ByteArray) (([(⟨bt465.1, bt465.2.1, bt465.2.2.1, bt465.2.2.2.1, bt465.2.2.2.2.1, bt465.2.2.2.2.2.1, bt465.2.2.2.2.2.2⟩ : S25)] : List (S25)))).bind fun bt505 => ((pred_Normal.f k bt490.1 bt490.2.1 bt490.2.2.1 bt490.2.2.2.1 bt490.2.2.2.2.1 bt490.2.2.2.2.2.1 bt490.2.2.2.2.2.2).bind fun bt517 => ((columbariumkeep_Pred.f k bt517.1 bt517.2.1 bt517.2.2.1 bt517.2.2.2.1 bt517.2.2.2.2.1 bt517.2.2.2.2.2.1 bt517.2.2.2.2.2.2 bt490.1 bt490.2.1 bt490.2.2.1 bt490.2.2.2.1 bt490.2.2.2.2.1 bt490.2.2.2.2.2.1 bt490.2.2.2.2.2.2).bind fun t528 => (if t528 = true then ((columbariumlaw13_flat.f k bt490.1 bt490.2.1 bt490.2.2.1 bt490.2.2.2.1 bt490.2.2.2.2.1 bt490.2.2.2.2.2.1 bt490.2.2.2.2.2.2 0).bind fun t529 => (columbariumlaw13_PredNormal.j0 k l1 (!t529) bt465.1 bt465.2.1 bt465.2.2.1 bt465.2.2.2.1 bt465.2.2.2.2.1 bt465.2.2.2.2.2.1 bt465.2.2.2.2.2.2 bt490.1 bt490.2.1 bt490.2.2.1 bt490.2.2.2.1 bt490.2.2.2.2.1 bt490.2.2.2.2.2.1 bt490.2.2.2.2.2.2 bt505.1 bt505.2.1 bt505.2.2.1 bt505.2.2.2.1 bt505.2.2.2.2.1 bt505.2.2.2.2.2.1 bt505.2.2.2.2.2.2)) else (columbariumlaw13_PredNormal.j0 k l1 true bt465.1 bt465.2.1 bt465.2.2.1 bt465.2.2.2.1 bt465.2.2.2.2.1 bt465.2.2.2.2.2.1 bt465.2.2.2.2.2.2 bt490.1 bt490.2.1 bt490.2.2.1 bt490.2.2.2.1 bt490.2.2.2.2.1 bt490.2.2.2.2.2.1 bt490.2.2.2.2.2.2 bt505.1 bt505.2.1 bt505.2.2.1 bt505.2.2.2.1 bt505.2.2.2.2.1 bt505.2.2.2.2.2.1 bt505.2.2.2.2.2.2)))))) else ((pred_Normal.f k bt465.1 bt465.2.1 bt465.2.2.1 bt465.2.2.2.1 bt465.2.2.2.2.1 bt465.2.2.2.2.2.1 bt465.2.2.2.2.2.2).bind fun bt477 => ((columbariumkeep_Pred.f k bt477.1 bt477.2.1 bt477.2.2.1 bt477.2.2.2.1 bt477.2.2.2.2.1 bt477.2.2.2.2.2.1 bt477.2.2.2.2.2.2 bt465.1 bt465.2.1 bt465.2.2.1 bt465.2.2.2.1 bt465.2.2.2.2.1 bt465.2.2.2.2.2.1 bt465.2.2.2.2.2.2).bind fun t488 => (if t488 = true then ((columbariumlaw13_known.f k).bind fun t489 => (some t489)) else (some false))))))) = some r := h
 clear h
 replace H := Option.bind_eq_some_iff.mp H
 obtain ⟨⟨t465, t466, t467, t468, t469, t470, t473⟩, A30, H⟩ := H
 replace H : ((pred_Right.f k t465 t466 t467 t468 t469 t470 t473).bind fun t476 => (if t476 = true then ((pred_Normal.f k t465 t466 t467 t468 t469 t470 t473).bind fun bt490 => ((pred_Normal.f k 3 (⟨#[]⟩ : ByteArray) 0 0 (⟨#[]⟩ : ByteArray) ([] : List ByteArray) (([(⟨t465, t466, t467, t468, t469, t470, t473⟩ : S25)] : List (S25)))).bind fun bt505 => ((pred_Normal.f k bt490.1 bt490.2.1 bt490.2.2.1 bt490.2.2.2.1 bt490.2.2.2.2.1 bt490.2.2.2.2.2.1 bt490.2.2.2.2.2.2).bind fun bt517 => ((columbariumkeep_Pred.f k bt517.1 bt517.2.1 bt517.2.2.1 bt517.2.2.2.1 bt517.2.2.2.2.1 bt517.2.2.2.2.2.1 bt517.2.2.2.2.2.2 bt490.1 bt490.2.1 bt490.2.2.1 bt490.2.2.2.1 bt490.2.2.2.2.1 bt490.2.2.2.2.2.1 bt490.2.2.2.2.2.2).bind fun t528 => (if t528 = true then ((columbariumlaw13_flat.f k bt490.1 bt490.2.1 bt490.2.2.1 bt490.2.2.2.1 bt490.2.2.2.2.1 bt490.2.2.2.2.2.1 bt490.2.2.2.2.2.2 0).bind fun t529 => (columbariumlaw13_PredNormal.j0 k l1 (!t529) t465 t466 t467 t468 t469 t470 t473 bt490.1 bt490.2.1 bt490.2.2.1 bt490.2.2.2.1 bt490.2.2.2.2.1 bt490.2.2.2.2.2.1 bt490.2.2.2.2.2.2 bt505.1 bt505.2.1 bt505.2.2.1 bt505.2.2.2.1 bt505.2.2.2.2.1 bt505.2.2.2.2.2.1 bt505.2.2.2.2.2.2)) else (columbariumlaw13_PredNormal.j0 k l1 true t465 t466 t467 t468 t469 t470 t473 bt490.1 bt490.2.1 bt490.2.2.1 bt490.2.2.2.1 bt490.2.2.2.2.1 bt490.2.2.2.2.2.1 bt490.2.2.2.2.2.2 bt505.1 bt505.2.1 bt505.2.2.1 bt505.2.2.2.1 bt505.2.2.2.2.1 bt505.2.2.2.2.2.1 bt505.2.2.2.2.2.2)))))) else ((pred_Normal.f k t465 t466 t467 t468 t469 t470 t473).bind fun bt477 => ((columbariumkeep_Pred.f k bt477.1 bt477.2.1 bt477.2.2.1 bt477.2.2.2.1 bt477.2.2.2.2.1 bt477.2.2.2.2.2.1 bt477.2.2.2.2.2.2 t465 t466 t467 t468 t469 t470 t473).bind fun t488 => (if t488 = true then ((columbariumlaw13_known.f k).bind fun t489 => (some t489)) else (some false)))))) = some r := H
 have A3 := zM A30
 clear A30
 replace H := Option.bind_eq_some_iff.mp H
 obtain ⟨t476, A40, H⟩ := H
 replace H : (if t476 = true then ((pred_Normal.f k t465 t466 t467 t468 t469 t470 t473).bind fun bt490 => ((pred_Normal.f k 3 (⟨#[]⟩ : ByteArray) 0 0 (⟨#[]⟩ : ByteArray) ([] : List ByteArray) (([(⟨t465, t466, t467, t468, t469, t470, t473⟩ : S25)] : List (S25)))).bind fun bt505 => ((pred_Normal.f k bt490.1 bt490.2.1 bt490.2.2.1 bt490.2.2.2.1 bt490.2.2.2.2.1 bt490.2.2.2.2.2.1 bt490.2.2.2.2.2.2).bind fun bt517 => ((columbariumkeep_Pred.f k bt517.1 bt517.2.1 bt517.2.2.1 bt517.2.2.2.1 bt517.2.2.2.2.1 bt517.2.2.2.2.2.1 bt517.2.2.2.2.2.2 bt490.1 bt490.2.1 bt490.2.2.1 bt490.2.2.2.1 bt490.2.2.2.2.1 bt490.2.2.2.2.2.1 bt490.2.2.2.2.2.2).bind fun t528 => (if t528 = true then ((columbariumlaw13_flat.f k bt490.1 bt490.2.1 bt490.2.2.1 bt490.2.2.2.1 bt490.2.2.2.2.1 bt490.2.2.2.2.2.1 bt490.2.2.2.2.2.2 0).bind fun t529 => (columbariumlaw13_PredNormal.j0 k l1 (!t529) t465 t466 t467 t468 t469 t470 t473 bt490.1 bt490.2.1 bt490.2.2.1 bt490.2.2.2.1 bt490.2.2.2.2.1 bt490.2.2.2.2.2.1 bt490.2.2.2.2.2.2 bt505.1 bt505.2.1 bt505.2.2.1 bt505.2.2.2.1 bt505.2.2.2.2.1 bt505.2.2.2.2.2.1 bt505.2.2.2.2.2.2)) else (columbariumlaw13_PredNormal.j0 k l1 true t465 t466 t467 t468 t469 t470 t473 bt490.1 bt490.2.1 bt490.2.2.1 bt490.2.2.2.1 bt490.2.2.2.2.1 bt490.2.2.2.2.2.1 bt490.2.2.2.2.2.2 bt505.1 bt505.2.1 bt505.2.2.1 bt505.2.2.2.1 bt505.2.2.2.2.1 bt505.2.2.2.2.2.1 bt505.2.2.2.2.2.2)))))) else ((pred_Normal.f k t465 t466 t467 t468 t469 t470 t473).bind fun bt477 => ((columbariumkeep_Pred.f k bt477.1 bt477.2.1 bt477.2.2.1 bt477.2.2.2.1 bt477.2.2.2.2.1 bt477.2.2.2.2.2.1 bt477.2.2.2.2.2.2 t465 t466 t467 t468 t469 t470 t473).bind fun t488 => (if t488 = true then ((columbariumlaw13_known.f k).bind fun t489 => (some t489)) else (some false))))) = some r := H
 have A4 := zM A40
 clear A40
 by_cases c5 : t476 = true
 ·subst c5
  have H1 : ((pred_Normal.f k t465 t466 t467 t468 t469 t470 t473).bind fun bt490 => ((pred_Normal.f k 3 (⟨#[]⟩ : ByteArray) 0 0 (⟨#[]⟩ : ByteArray) ([] : List ByteArray) (([(⟨t465, t466, t467, t468, t469, t470, t473⟩ : S25)] : List (S25)))).bind fun bt505 => ((pred_Normal.f k bt490.1 bt490.2.1 bt490.2.2.1 bt490.2.2.2.1 bt490.2.2.2.2.1 bt490.2.2.2.2.2.1 bt490.2.2.2.2.2.2).bind fun bt517 => ((columbariumkeep_Pred.f k bt517.1 bt517.2.1 bt517.2.2.1 bt517.2.2.2.1 bt517.2.2.2.2.1 bt517.2.2.2.2.2.1 bt517.2.2.2.2.2.2 bt490.1 bt490.2.1 bt490.2.2.1 bt490.2.2.2.1 bt490.2.2.2.2.1 bt490.2.2.2.2.2.1 bt490.2.2.2.2.2.2).bind fun t528 => (if t528 = true then ((columbariumlaw13_flat.f k bt490.1 bt490.2.1 bt490.2.2.1 bt490.2.2.2.1 bt490.2.2.2.2.1 bt490.2.2.2.2.2.1 bt490.2.2.2.2.2.2 0).bind fun t529 => (columbariumlaw13_PredNormal.j0 k l1 (!t529) t465 t466 t467 t468 t469 t470 t473 bt490.1 bt490.2.1 bt490.2.2.1 bt490.2.2.2.1 bt490.2.2.2.2.1 bt490.2.2.2.2.2.1 bt490.2.2.2.2.2.2 bt505.1 bt505.2.1 bt505.2.2.1 bt505.2.2.2.1 bt505.2.2.2.2.1 bt505.2.2.2.2.2.1 bt505.2.2.2.2.2.2)) else (columbariumlaw13_PredNormal.j0 k l1 true t465 t466 t467 t468 t469 t470 t473 bt490.1 bt490.2.1 bt490.2.2.1 bt490.2.2.2.1 bt490.2.2.2.2.1 bt490.2.2.2.2.2.1 bt490.2.2.2.2.2.2 bt505.1 bt505.2.1 bt505.2.2.1 bt505.2.2.2.1 bt505.2.2.2.2.1 bt505.2.2.2.2.2.1 bt505.2.2.2.2.2.2)))))) = some r := by rw [if_pos rfl] at H; exact H
  clear H
  have H := H1
  clear H1
  replace H := Option.bind_eq_some_iff.mp H
  obtain ⟨⟨t490, t491, t492, t493, t494, t495, t498⟩, A60, H⟩ := H
  replace H : ((pred_Normal.f k 3 (⟨#[]⟩ : ByteArray) 0 0 (⟨#[]⟩ : ByteArray) ([] : List ByteArray) (([(⟨t465, t466, t467, t468, t469, t470, t473⟩ : S25)] : List (S25)))).bind fun bt505 => ((pred_Normal.f k t490 t491 t492 t493 t494 t495 t498).bind fun bt517 => ((columbariumkeep_Pred.f k bt517.1 bt517.2.1 bt517.2.2.1 bt517.2.2.2.1 bt517.2.2.2.2.1 bt517.2.2.2.2.2.1 bt517.2.2.2.2.2.2 t490 t491 t492 t493 t494 t495 t498).bind fun t528 => (if t528 = true then ((columbariumlaw13_flat.f k t490 t491 t492 t493 t494 t495 t498 0).bind fun t529 => (columbariumlaw13_PredNormal.j0 k l1 (!t529) t465 t466 t467 t468 t469 t470 t473 t490 t491 t492 t493 t494 t495 t498 bt505.1 bt505.2.1 bt505.2.2.1 bt505.2.2.2.1 bt505.2.2.2.2.1 bt505.2.2.2.2.2.1 bt505.2.2.2.2.2.2)) else (columbariumlaw13_PredNormal.j0 k l1 true t465 t466 t467 t468 t469 t470 t473 t490 t491 t492 t493 t494 t495 t498 bt505.1 bt505.2.1 bt505.2.2.1 bt505.2.2.2.1 bt505.2.2.2.2.1 bt505.2.2.2.2.2.1 bt505.2.2.2.2.2.2))))) = some r := H
  have A6 := zM A60
  clear A60
  obtain ⟨y502, hy502⟩ : ∃ y_ : List (S25), y_ = (([(⟨t465, t466, t467, t468, t469, t470, t473⟩ : S25)] : List (S25))) := ⟨_, rfl⟩
  replace H : ((pred_Normal.f k 3 (⟨#[]⟩ : ByteArray) 0 0 (⟨#[]⟩ : ByteArray) ([] : List ByteArray) y502).bind fun bt505 => ((pred_Normal.f k t490 t491 t492 t493 t494 t495 t498).bind fun bt517 => ((columbariumkeep_Pred.f k bt517.1 bt517.2.1 bt517.2.2.1 bt517.2.2.2.1 bt517.2.2.2.2.1 bt517.2.2.2.2.2.1 bt517.2.2.2.2.2.2 t490 t491 t492 t493 t494 t495 t498).bind fun t528 => (if t528 = true then ((columbariumlaw13_flat.f k t490 t491 t492 t493 t494 t495 t498 0).bind fun t529 => (columbariumlaw13_PredNormal.j0 k l1 (!t529) t465 t466 t467 t468 t469 t470 t473 t490 t491 t492 t493 t494 t495 t498 bt505.1 bt505.2.1 bt505.2.2.1 bt505.2.2.2.1 bt505.2.2.2.2.1 bt505.2.2.2.2.2.1 bt505.2.2.2.2.2.2)) else (columbariumlaw13_PredNormal.j0 k l1 true t465 t466 t467 t468 t469 t470 t473 t490 t491 t492 t493 t494 t495 t498 bt505.1 bt505.2.1 bt505.2.2.1 bt505.2.2.2.1 bt505.2.2.2.2.1 bt505.2.2.2.2.2.1 bt505.2.2.2.2.2.2))))) = some r := by first | (rw [hy502]; with_reducible exact H) | (have H2_ := (Option.bind_some _ _).symm.trans H; rw [hy502]; with_reducible exact H2_) | (have H2_ := (Option.bind_some _ _).symm.trans H; with_reducible exact H2_) | with_reducible exact H | (rw [hy502]; exact H) | exact H
  have Ny502 := zM hy502
  clear hy502
  replace H := Option.bind_eq_some_iff.mp H
  obtain ⟨⟨t505, t506, t507, t508, t509, t510, t513⟩, A70, H⟩ := H
  replace H : ((pred_Normal.f k t490 t491 t492 t493 t494 t495 t498).bind fun bt517 => ((columbariumkeep_Pred.f k bt517.1 bt517.2.1 bt517.2.2.1 bt517.2.2.2.1 bt517.2.2.2.2.1 bt517.2.2.2.2.2.1 bt517.2.2.2.2.2.2 t490 t491 t492 t493 t494 t495 t498).bind fun t528 => (if t528 = true then ((columbariumlaw13_flat.f k t490 t491 t492 t493 t494 t495 t498 0).bind fun t529 => (columbariumlaw13_PredNormal.j0 k l1 (!t529) t465 t466 t467 t468 t469 t470 t473 t490 t491 t492 t493 t494 t495 t498 t505 t506 t507 t508 t509 t510 t513)) else (columbariumlaw13_PredNormal.j0 k l1 true t465 t466 t467 t468 t469 t470 t473 t490 t491 t492 t493 t494 t495 t498 t505 t506 t507 t508 t509 t510 t513)))) = some r := H
  have A7 := zM A70
  clear A70
  have HC8 := zM H
  clear H
  go_enter Try.func3, Try.ntmps3
  go_upto_region 6 with (first | ((with_reducible refine gate_dst (N := 2) rfl ?_); refine box_event ?hg (N := 2) ?hd (cs := #[.int .i64 a0_0, .string a0_1, .int .i64 a0_2, .int .i64 a0_3, .string a0_4, .slice A0_5 l0_5.length c0_5, .slice A0_6 l0_6.length c0_6]) (t := 25) ?hr ?_; (case hd => rfl); (case hg => rfl); (case hr => first | (go_simp; done) | (go_simp; rfl)); intro gb464 hg w9 hbox hb; have BK464 := zM (hbox); have GW464 := zM ((by rw [hg]; exact (below_size (mB HB.out)) : w.heap.size ≤ gb464)); replace HB := zM (below_step (mB HB.out) hb); have GE464 := GW464; clear hb hbox hg; obtain ⟨hcz10_0, hcz10_1, hcz10_2, hcz10_3, hcz10_4, hcz10_5, hcz10_6, hfz10_0, hfz10_1, hfz10_2, hfz10_3, hfz10_4, hfz10_5, hfz10_6⟩ := cells_7 BK464.out) | ((with_reducible refine gate_callee (f := 7) rfl ?_); refine goesL_ (some 11) rfl rfl Try.func7 (by kernel_rfl) rfl #[.agg #[.int .i64 a0_0, .string a0_1, .int .i64 a0_2, .int .i64 a0_3, .string a0_4, .slice A0_5 l0_5.length c0_5, .slice A0_6 l0_6.length c0_6], .int .i64 5] rfl yb ?_; (with_reducible refine (columbariumkeep_Cut.calls k a0_0 a0_1 a0_2 a0_3 a0_4 _ _ l0_5 _ _ l0_6 5 t465 t466 t467 t468 t469 t470 t473 _ ?side1 ?side2 ?side3 ?side4 A3.out).mono ?_); (case side1 => exact zC (Kd.C_below HR0_5.out HB.out)); (case side2 => first | exact HC0_5.out | exact Kd.V_mono HC0_5.out (fun k_ hk_ => by grind)); (case side3 => exact zC (Kd.C_below HR0_6.out HB.out)); (case side4 => first | exact HC0_6.out | exact Kd.V_mono HC0_6.out (fun k_ hk_ => by grind)); rintro e w11 ⟨v471, v474, rfl, ho0, ho1, hb⟩; refine ⟨_, rfl, ?_⟩; (try replace ho1 := Kd.S_N ho1); have HO472 := zM (Kd.R_lower ho0 (below_size mZ)); have HO475 := zM (Kd.N_lower (Kd.N_mono (ok' := fun k_ => some k_ ≠ (v471 : Value).ownBlock ∧ k_ ≠ gb464) (Kd.R_N (Kd.R_bound ho1)) (fun k_ hk_ => ⟨hk_.1, (Kd.freshB (mK BK464.out) k_ hk_.2.1)⟩)) (below_size mZ)); replace BK464 := zK BK464 hb; replace HB := zM (below_step mZ hb); (try clear hb); (try clear ho0); (try clear ho1); obtain ⟨hcz12_0, hcz12_1, hcz12_2, hcz12_3, hcz12_4, hcz12_5, hcz12_6, hfz12_0, hfz12_1, hfz12_2, hfz12_3, hfz12_4, hfz12_5, hfz12_6⟩ := cells_7 BK464.out; obtain ⟨Ao13, co13, eo13⟩ := Kd.R_slice HO472.out; subst eo13; obtain ⟨Ao14, co14, eo14⟩ := Kd.N_slice HO475.out; subst eo14) | ((with_reducible refine gate_callee (f := 8) rfl ?_); refine goesL_ (some 13) rfl rfl Try.func8 (by kernel_rfl) rfl #[.agg #[.int .i64 t465, .string t466, .int .i64 t467, .int .i64 t468, .string t469, .slice Ao13 t470.length co13, .slice Ao14 t473.length co14]] rfl yb ?_; (with_reducible refine (pred_Right.calls k t465 t466 t467 t468 t469 _ _ t470 _ _ t473 true _ ?side1 ?side2 ?side3 ?side4 A4.out).mono ?_); (case side1 => refine (Kd.R_reads' (e := 9) (base := w.heap.size) (ok := fun k_ => True) (n := t470.length) (c := co13) ?_).2.2; exact (by (with_reducible repeat (first | apply Kd.R_alloc | apply Kd.R_drewN | apply Kd.R_drew)); exact (Kd.R_mono (zgR (Kd.R_types HO472.out BK464.out (by decide))) (fun _ h_ => h_.1)))); (case side2 => exact (Kd.R_reads' HO472.out).2.1); (case side3 => refine (Kd.N_reads' (e := 25) (base := w.heap.size) (ok := fun k_ => (some k_ ≠ (.slice Ao13 t470.length co13 : Value).ownBlock ∧ k_ ≠ gb464)) (n := t473.length) (c := co14) ?_).2.2; exact (by (with_reducible repeat (first | apply Kd.N_alloc | apply Kd.N_drewN | apply Kd.N_drew)); exact (Kd.N_mono (zgN (Kd.N_mono HO475.out (fun k_ hk => (⟨hk, hk.2⟩ : _ ∧ k_ ≠ gb464)))) (fun _ h_ => h_.1)))); (case side4 => exact (Kd.N_reads' HO475.out).2.1); rintro e w15 ⟨rfl, hb⟩; refine ⟨_, rfl, ?_⟩; replace HO472 := zM (Kd.R_below (by (with_reducible repeat (first | apply Kd.R_alloc | apply Kd.R_drewN | apply Kd.R_drew)); exact (Kd.R_mono (zgR (Kd.R_types HO472.out BK464.out (by decide))) (fun _ h_ => h_.1))) hb); replace HO475 := zM (Kd.N_below (by (with_reducible repeat (first | apply Kd.N_alloc | apply Kd.N_drewN | apply Kd.N_drew)); exact (Kd.N_mono (zgN (Kd.N_mono HO475.out (fun k_ hk => (⟨hk, hk.2⟩ : _ ∧ k_ ≠ gb464)))) (fun _ h_ => h_.1))) hb); replace BK464 := zP7 BK464 hb; replace HB := zM (below_step mZ hb); (try clear hb); obtain ⟨hcz16_0, hcz16_1, hcz16_2, hcz16_3, hcz16_4, hcz16_5, hcz16_6, hfz16_0, hfz16_1, hfz16_2, hfz16_3, hfz16_4, hfz16_5, hfz16_6⟩ := cells_7 BK464.out) | ((with_reducible refine gate_callee (f := 10) rfl ?_); refine goesL_ (some 23) rfl rfl Try.func10 (by kernel_rfl) rfl #[.agg #[.int .i64 t465, .string t466, .int .i64 t467, .int .i64 t468, .string t469, .slice Ao13 t470.length co13, .slice Ao14 t473.length co14]] rfl yb ?_; (with_reducible refine (pred_Normal.calls k t465 t466 t467 t468 t469 _ _ t470 _ _ t473 t490 t491 t492 t493 t494 t495 t498 _ ?side1 ?side2 ?side3 ?side4 A6.out).mono ?_); (case side1 => exact zC ((Kd.R_reads' HO472.out).2.2)); (case side2 => exact (Kd.R_reads' HO472.out).2.1); (case side3 => exact zC ((Kd.N_reads' HO475.out).2.2)); (case side4 => exact (Kd.N_reads' HO475.out).2.1); rintro e w17 ⟨v496, v499, rfl, ho0, ho1, hb⟩; refine ⟨_, rfl, ?_⟩; have HO497 := zM (Kd.V_lower (Kd.V_mono (ok' := fun k_ => some k_ ≠ (.slice Ao13 t470.length co13 : Value).ownBlock ∧ some k_ ≠ (.slice Ao14 t473.length co14 : Value).ownBlock ∧ k_ ≠ gb464) ho0 (fun k_ hk_ => ⟨(Kd.fresh' (Kd.R_lt (mR HO472.out)) k_ hk_), (Kd.fresh' (Kd.N_lt (mN HO475.out)) k_ hk_), (Kd.freshB (mK BK464.out) k_ hk_)⟩)) (below_size mZ)); have HO500 := zM (Kd.V_lower (Kd.V_mono (ok' := fun k_ => some k_ ≠ (.slice Ao13 t470.length co13 : Value).ownBlock ∧ some k_ ≠ (.slice Ao14 t473.length co14 : Value).ownBlock ∧ k_ ≠ gb464) ho1 (fun k_ hk_ => ⟨(Kd.fresh' (Kd.R_lt (mR HO472.out)) k_ hk_), (Kd.fresh' (Kd.N_lt (mN HO475.out)) k_ hk_), (Kd.freshB (mK BK464.out) k_ hk_)⟩)) (below_size mZ)); replace HO472 := zR HO472 hb; replace HO475 := zN HO475 hb; replace BK464 := zK BK464 hb; replace HB := zM (below_step mZ hb); (try clear hb); (try clear ho0); (try clear ho1)) | ((with_reducible refine gate_dst (N := 5) rfl ?_); refine box_event ?hg (N := 5) ?hd (cs := #[.int .i64 0, .string (⟨#[]⟩ : ByteArray), .int .i64 0, .int .i64 0, .string (⟨#[]⟩ : ByteArray), .slice none 0 0, .slice none 0 0]) (t := 25) ?hr ?_; (case hd => rfl); (case hg => rfl); (case hr => first | (go_simp; done) | (go_simp; rfl)); intro gb501 hg w18 hbox hb; replace HO472 := zR HO472 hb; replace HO475 := zM (Kd.N_below (Kd.N_elderB (mN HO475.out) gb501 (Nat.le_of_eq hg.symm)) hb); replace HO497 := zM (Kd.V_below (Kd.V_elderB (mV HO497.out) gb501 (Nat.le_of_eq hg.symm)) hb); replace HO500 := zM (Kd.V_below (Kd.V_elderB (mV HO500.out) gb501 (Nat.le_of_eq hg.symm)) hb); have BK501 := zM (hbox); have GW501 := zM ((by rw [hg]; exact (below_size mZ) : w.heap.size ≤ gb501)); replace HB := zM (below_step mZ hb); have GE501 := GW501; have NB464_501 := zL BK464 hg; have NB501_464 := zG BK464 hg; replace BK464 := zK BK464 hb; clear hb hbox hg; have hnb19 := NB501_464.out; have hnc19 := NB464_501.out; obtain ⟨hcz20_0, hcz20_1, hcz20_2, hcz20_3, hcz20_4, hcz20_5, hcz20_6, hfz20_0, hfz20_1, hfz20_2, hfz20_3, hfz20_4, hfz20_5, hfz20_6⟩ := cells_7 BK501.out; obtain ⟨Ao21, co21, eo21⟩ := Kd.V_slice HO497.out; subst eo21; obtain ⟨Ao22, co22, eo22⟩ := Kd.V_slice HO500.out; subst eo22) | ((with_reducible refine gate_store (t := 25) (p := 5) rfl ?_); refine store_event (t := 25) (p := 5) (v := ?vo_w23) (w1 := (((((((w18.setCell ⟨gb501, 0, none⟩ (.int .i64 t490)).setCell ⟨gb501, 1, none⟩ (.string t491)).setCell ⟨gb501, 2, none⟩ (.int .i64 t492)).setCell ⟨gb501, 3, none⟩ (.int .i64 t493)).setCell ⟨gb501, 4, none⟩ (.string t494)).setCell ⟨gb501, 5, none⟩ (.slice Ao21 t495.length co21)).setCell ⟨gb501, 6, none⟩ (.slice Ao22 t498.length co22))) ?hg ?ho ?hn ?hr ?_; (case ho => rfl); (case hg => rfl); (case hn => rfl); (case hr => first | (go_simp; done) | (go_simp; rfl)); intro w23 hw; have n0_ : Aside0 (Kd.R Kd.string 9 w23 w.heap.size (fun _ => True) (.slice Ao13 t470.length co13) t470) := ⟨(by rw [hw]; exact (by (with_reducible repeat (first | apply Kd.R_alloc | apply Kd.R_drewN | apply Kd.R_drew)); exact Kd.R_mono (zgR (Kd.R_types HO472.out BK501.out (by decide))) (fun _ hk => trivial)))⟩; have n1_ : Aside0 (Kd.N k25 25 w23 w.heap.size (fun k_ => some k_ ≠ (.slice Ao13 t470.length co13 : Value).ownBlock ∧ k_ ≠ gb464 ∧ k_ ≠ gb501) (.slice Ao14 t473.length co14) t473) := ⟨(by rw [hw]; exact (by (with_reducible repeat (first | apply Kd.N_alloc | apply Kd.N_drewN | apply Kd.N_drew)); exact Kd.N_mono (zgN (Kd.N_mono HO475.out (fun k_ hk => (⟨hk, hk.2⟩ : _ ∧ k_ ≠ gb501)))) (fun _ hk => ⟨hk.1.1.1, ⟨hk.1.1.2, hk.1.2⟩⟩)))⟩; have n2_ : Aside0 (Kd.V Kd.string 9 w23 w.heap.size (fun k_ => some k_ ≠ (.slice Ao13 t470.length co13 : Value).ownBlock ∧ some k_ ≠ (.slice Ao14 t473.length co14 : Value).ownBlock ∧ k_ ≠ gb464 ∧ k_ ≠ gb501) (.slice Ao21 t495.length co21) t495) := ⟨(by rw [hw]; exact (by (with_reducible repeat (first | apply Kd.V_alloc | apply Kd.V_drewN | apply Kd.V_drew)); exact Kd.V_mono (zgV (Kd.V_mono HO497.out (fun k_ hk => (⟨hk, hk.2⟩ : _ ∧ k_ ≠ gb501)))) (fun _ hk => ⟨hk.1.1.1, ⟨hk.1.1.2.1, ⟨hk.1.1.2.2, hk.1.2⟩⟩⟩)))⟩; have n3_ : Aside0 (Kd.V k25 25 w23 w.heap.size (fun k_ => some k_ ≠ (.slice Ao13 t470.length co13 : Value).ownBlock ∧ some k_ ≠ (.slice Ao14 t473.length co14 : Value).ownBlock ∧ k_ ≠ gb464 ∧ k_ ≠ gb501) (.slice Ao22 t498.length co22) t498) := ⟨(by rw [hw]; exact (by (with_reducible repeat (first | apply Kd.V_alloc | apply Kd.V_drewN | apply Kd.V_drew)); exact Kd.V_mono (zgV (Kd.V_mono HO500.out (fun k_ hk => (⟨hk, hk.2⟩ : _ ∧ k_ ≠ gb501)))) (fun _ hk => ⟨hk.1.1.1, ⟨hk.1.1.2.1, ⟨hk.1.1.2.2, hk.1.2⟩⟩⟩)))⟩; have n4_ : Aside0 (w23.heap[gb464]? = some (.cells #[.int .i64 t465, .string t466, .int .i64 t467, .int .i64 t468, .string t469, .slice Ao13 t470.length co13, .slice Ao14 t473.length co14] 25 (0, 0))) := ⟨(by rw [hw]; exact (zF BK464.out NB464_501.out))⟩; have n5_ : Aside0 (w23.heap[gb501]? = some (.cells #[.int .i64 t490, .string t491, .int .i64 t492, .int .i64 t493, .string t494, .slice Ao21 t495.length co21, .slice Ao22 t498.length co22] 25 (0, 0))) := ⟨(by rw [hw]; exact (by (with_reducible repeat (first | refine blk_drewN ?_ _ | refine blk_drew ?_ | refine blk_alloc ?_ _)); apply puts_7; (with_reducible repeat (first | refine blk_drewN ?_ _ | refine blk_drew ?_ | refine blk_alloc ?_ _)); exact BK501.out))⟩; have n6_ : Aside0 (Below w.heap.size w w23) := ⟨(by rw [hw]; exact mZ)⟩; clear hw; clear HO472; clear HO475; clear HO497; clear HO500; clear BK464; clear BK501; clear HB; have HO472 := n0_; have HO475 := n1_; have HO497 := n2_; have HO500 := n3_; have BK464 := n4_; have BK501 := n5_; have HB := n6_; clear n0_ n1_ n2_ n3_ n4_ n5_ n6_; obtain ⟨hcz24_0, hcz24_1, hcz24_2, hcz24_3, hcz24_4, hcz24_5, hcz24_6, hfz24_0, hfz24_1, hfz24_2, hfz24_3, hfz24_4, hfz24_5, hfz24_6⟩ := cells_7 BK464.out) | ((with_reducible refine gate_dst (N := 25) rfl ?_); replace HO472 := zM (show Kd.V Kd.string 9 _ w.heap.size (fun k_ => some k_ ≠ (.slice Ao14 t473.length co14 : Value).ownBlock ∧ k_ ≠ gb464 ∧ k_ ≠ gb501) (.slice Ao13 t470.length co13) t470 from Kd.V_mono (Kd.R_V ((Kd.R_apart' (Kd.R_types (Kd.R_types HO472.out BK464.out (by decide)) BK501.out (by decide)) (Kd.N_typed HO475.out) (by decide)))) (fun _ hk => ⟨hk.2, ⟨hk.1.1.2, hk.1.2⟩⟩)); replace HO475 := zM (show Kd.V k25 25 _ w.heap.size (fun k_ => some k_ ≠ (.slice Ao13 t470.length co13 : Value).ownBlock ∧ k_ ≠ gb464 ∧ k_ ≠ gb501) (.slice Ao14 t473.length co14) t473 from Kd.N_V (HO475.out)); refine Kd.N_lit k25 _ 25 ?hg (N' := 25) ?hd (xs := ([(⟨t465, t466, t467, t468, t469, t470, t473⟩ : S25)] : List (S25))) (inner := [.int .i64 t465, .string t466, .int .i64 t467, .int .i64 t468, .string t469, .slice Ao13 t470.length co13, .slice Ao14 t473.length co14]) (ok := (fun k_ => k_ ≠ gb464 ∧ k_ ≠ gb501)) (okp := (fun k_ => k_ ≠ gb464 ∧ k_ ≠ gb501)) ?hr ?hp (fun _ hk => hk) ((show ∀ k_, w23.heap.size ≤ k_ → (fun k_ => k_ ≠ gb464 ∧ k_ ≠ gb501) k_ from fun k_ hk => ⟨Kd.freshB (mK BK464.out) k_ hk, Kd.freshB (mK BK501.out) k_ hk⟩) _ (Nat.le_refl _)) (Below.refl _ _) (Nat.le_refl _) (by simp) ?_; (case hd => rfl); (case hg => rfl); (case hr => first | (go_simp; done) | (go_simp; rfl)); (case hp => exact (Reps.c7 (show Kd.FK k25 _ _ (⟨t465, t466, t467, t468, t469, t470, t473⟩ : S25) [.int .i64 t465, .string t466, .int .i64 t467, .int .i64 t468, .string t469, .slice Ao13 t470.length co13, .slice Ao14 t473.length co14] from (k25_mkF _ _ (⟨t465, t466, t467, t468, t469, t470, t473⟩ : S25) (Kd.V_reads' (Kd.V_mono (ok' := (fun k_ => k_ ≠ gb464 ∧ k_ ≠ gb501)) (HO472.out) (fun k_ hk => ⟨hk.2.1, hk.2.2⟩))).2.1 (Kd.V_F (by (with_reducible repeat (first | apply Kd.V_alloc | apply Kd.V_drewN | apply Kd.V_drew)); exact (Kd.V_mono (ok' := (fun k_ => k_ ≠ gb464 ∧ k_ ≠ gb501)) (HO472.out) (fun k_ hk => ⟨hk.2.1, hk.2.2⟩)))) (Kd.V_reads' (Kd.V_mono (ok' := (fun k_ => k_ ≠ gb464 ∧ k_ ≠ gb501)) (HO475.out) (fun k_ hk => ⟨hk.2.1, hk.2.2⟩))).2.1 (Kd.V_F (by (with_reducible repeat (first | apply Kd.V_alloc | apply Kd.V_drewN | apply Kd.V_drew)); exact (Kd.V_mono (ok' := (fun k_ => k_ ≠ gb464 ∧ k_ ≠ gb501)) (HO475.out) (fun k_ hk => ⟨hk.2.1, hk.2.2⟩)))))) (Reps.none _ _))); intro v503 w25 ho26 hb hg_ hnew_; clear hg_ hnew_; (first | rw [← Ny502.out] at ho26 | (simp only [Int.reduceToNat] at ho26; rw [← Ny502.out] at ho26)); replace HO472 := zM (Kd.V_elder' (mV HO472.out) (by first | exact Kd.N_base ho26 | exact Kd.N_base (Kd.R_N ho26)) hb); replace HO475 := zM (Kd.V_elder' (mV HO475.out) (by first | exact Kd.N_base ho26 | exact Kd.N_base (Kd.R_N ho26)) hb); replace HO497 := zM (Kd.V_elder' (mV HO497.out) (by first | exact Kd.N_base ho26 | exact Kd.N_base (Kd.R_N ho26)) hb); replace HO500 := zM (Kd.V_elder' (mV HO500.out) (by first | exact Kd.N_base ho26 | exact Kd.N_base (Kd.R_N ho26)) hb); have HO504 := zM (Kd.N_lower ho26 (below_size mZ)); replace BK464 := zK BK464 hb; replace BK501 := zK BK501 hb; replace HB := zM (below_step mZ hb); clear hb ho26; obtain ⟨Ao27, co27, eo27⟩ := Kd.N_slice HO504.out; subst eo27) | ((with_reducible refine gate_callee (f := 10) rfl ?_); refine goesL_ (some 27) rfl rfl Try.func10 (by kernel_rfl) rfl #[.agg #[.int .i64 3, .string (⟨#[]⟩ : ByteArray), .int .i64 0, .int .i64 0, .string (⟨#[]⟩ : ByteArray), .slice none 0 0, .slice Ao27 y502.length co27]] rfl yb ?_; (refine (pred_Normal.calls k 3 (⟨#[]⟩ : ByteArray) 0 0 (⟨#[]⟩ : ByteArray) _ _ ([] : List ByteArray) _ _ y502 t505 t506 t507 t508 t509 t510 t513 _ ?side1 ?side2 ?side3 ?side4 A7.out).mono ?_); (case side1 => exact Kd.C_nil _ _); (case side2 => exact Nat.le_refl _); (case side3 => exact zC ((Kd.N_reads' HO504.out).2.2)); (case side4 => exact (Kd.N_reads' HO504.out).2.1); rintro e w28 ⟨v511, v514, rfl, ho0, ho1, hb⟩; refine ⟨_, rfl, ?_⟩; replace HO472 := zV HO472 hb; replace HO475 := zV HO475 hb; replace HO497 := zV HO497 hb; replace HO500 := zV HO500 hb; have HO512 := zM (Kd.V_lower (Kd.V_mono (ok' := fun k_ => some k_ ≠ (.slice Ao27 y502.length co27 : Value).ownBlock ∧ k_ ≠ gb464 ∧ k_ ≠ gb501) ho0 (fun k_ hk_ => ⟨(Kd.fresh' (Kd.N_lt (mN HO504.out)) k_ hk_), (Kd.freshB (mK BK464.out) k_ hk_), (Kd.freshB (mK BK501.out) k_ hk_)⟩)) (below_size mZ)); have HO515 := zM (Kd.V_lower (Kd.V_mono (ok' := fun k_ => some k_ ≠ (.slice Ao27 y502.length co27 : Value).ownBlock ∧ k_ ≠ gb464 ∧ k_ ≠ gb501) ho1 (fun k_ hk_ => ⟨(Kd.fresh' (Kd.N_lt (mN HO504.out)) k_ hk_), (Kd.freshB (mK BK464.out) k_ hk_), (Kd.freshB (mK BK501.out) k_ hk_)⟩)) (below_size mZ)); replace HO504 := zN HO504 hb; replace BK464 := zK BK464 hb; replace BK501 := zK BK501 hb; replace HB := zM (below_step mZ hb); (try clear hb); (try clear ho0); (try clear ho1)) | ((with_reducible refine gate_dst (N := 6) rfl ?_); refine box_event ?hg (N := 6) ?hd (cs := #[.int .i64 0, .string (⟨#[]⟩ : ByteArray), .int .i64 0, .int .i64 0, .string (⟨#[]⟩ : ByteArray), .slice none 0 0, .slice none 0 0]) (t := 25) ?hr ?_; (case hd => rfl); (case hg => rfl); (case hr => first | (go_simp; done) | (go_simp; rfl)); intro gb516 hg w29 hbox hb; replace HO472 := zM (Kd.V_below (Kd.V_elderB (mV HO472.out) gb516 (Nat.le_of_eq hg.symm)) hb); replace HO475 := zM (Kd.V_below (Kd.V_elderB (mV HO475.out) gb516 (Nat.le_of_eq hg.symm)) hb); replace HO497 := zM (Kd.V_below (Kd.V_elderB (mV HO497.out) gb516 (Nat.le_of_eq hg.symm)) hb); replace HO500 := zM (Kd.V_below (Kd.V_elderB (mV HO500.out) gb516 (Nat.le_of_eq hg.symm)) hb); replace HO504 := zM (Kd.N_below (Kd.N_elderB (mN HO504.out) gb516 (Nat.le_of_eq hg.symm)) hb); replace HO512 := zM (Kd.V_below (Kd.V_elderB (mV HO512.out) gb516 (Nat.le_of_eq hg.symm)) hb); replace HO515 := zM (Kd.V_below (Kd.V_elderB (mV HO515.out) gb516 (Nat.le_of_eq hg.symm)) hb); have BK516 := zM (hbox); have GW516 := zM ((by rw [hg]; exact (below_size mZ) : w.heap.size ≤ gb516)); replace HB := zM (below_step mZ hb); have GE516 := GW516; have NB464_516 := zL BK464 hg; have NB516_464 := zG BK464 hg; replace BK464 := zK BK464 hb; have NB501_516 := zL BK501 hg; have NB516_501 := zG BK501 hg; replace BK501 := zK BK501 hb; clear hb hbox hg; have hnb30 := NB516_464.out; have hnc30 := NB464_516.out; have hnb31 := NB516_501.out; have hnc31 := NB501_516.out; obtain ⟨hcz32_0, hcz32_1, hcz32_2, hcz32_3, hcz32_4, hcz32_5, hcz32_6, hfz32_0, hfz32_1, hfz32_2, hfz32_3, hfz32_4, hfz32_5, hfz32_6⟩ := cells_7 BK516.out; obtain ⟨Ao33, co33, eo33⟩ := Kd.V_slice HO512.out; subst eo33; obtain ⟨Ao34, co34, eo34⟩ := Kd.V_slice HO515.out; subst eo34))
  (try simp only [Act.put, List.setIfInBounds_toArray, List.set_cons_zero, List.set_cons_succ])
  go_cut [37] (fun v37 wc => ∃ (kq : Nat) (x37_7 : Bool), v37 = .bool x37_7 ∧ Aside0 (columbariumlaw13_PredNormal.j0 kq l1 x37_7 t465 t466 t467 t468 t469 t470 t473 t490 t491 t492 t493 t494 t495 t498 t505 t506 t507 t508 t509 t510 t513 = some r) ∧ Aside0 (kq ≤ k) ∧ Aside0 (Kd.V Kd.string 9 wc w.heap.size (fun k_ => k_ ≠ gb464 ∧ k_ ≠ gb501 ∧ k_ ≠ gb516) (.slice Ao13 t470.length co13) t470) ∧ Aside0 (Kd.V k25 25 wc w.heap.size (fun k_ => k_ ≠ gb464 ∧ k_ ≠ gb501 ∧ k_ ≠ gb516) (.slice Ao14 t473.length co14) t473) ∧ Aside0 (Kd.V Kd.string 9 wc w.heap.size (fun k_ => k_ ≠ gb464 ∧ k_ ≠ gb501 ∧ k_ ≠ gb516) (.slice Ao21 t495.length co21) t495) ∧ Aside0 (Kd.V k25 25 wc w.heap.size (fun k_ => k_ ≠ gb464 ∧ k_ ≠ gb501 ∧ k_ ≠ gb516) (.slice Ao22 t498.length co22) t498) ∧ Aside0 (Kd.V Kd.string 9 wc w.heap.size (fun k_ => k_ ≠ gb464 ∧ k_ ≠ gb501 ∧ k_ ≠ gb516) (.slice Ao33 t510.length co33) t510) ∧ Aside0 (Kd.V k25 25 wc w.heap.size (fun k_ => k_ ≠ gb464 ∧ k_ ≠ gb501 ∧ k_ ≠ gb516) (.slice Ao34 t513.length co34) t513) ∧ Aside0 (wc.heap[gb464]? = some (.cells #[.int .i64 t465, .string t466, .int .i64 t467, .int .i64 t468, .string t469, (.slice Ao13 t470.length co13), (.slice Ao14 t473.length co14)] 25 (0, 0))) ∧ Aside0 (wc.heap[gb501]? = some (.cells #[.int .i64 t490, .string t491, .int .i64 t492, .int .i64 t493, .string t494, (.slice Ao21 t495.length co21), (.slice Ao22 t498.length co22)] 25 (0, 0))) ∧ Aside0 (wc.heap[gb516]? = some (.cells #[.int .i64 t505, .string t506, .int .i64 t507, .int .i64 t508, .string t509, (.slice Ao33 t510.length co33), (.slice Ao34 t513.length co34)] 25 (0, 0))) ∧ Aside0 (Below w.heap.size w wc))
  case first =>
   have H := HC8.out
   clear HC8
   replace H := Option.bind_eq_some_iff.mp H
   obtain ⟨⟨t517, t518, t519, t520, t521, t522, t525⟩, A350, H⟩ := H
   replace H : ((columbariumkeep_Pred.f k t517 t518 t519 t520 t521 t522 t525 t490 t491 t492 t493 t494 t495 t498).bind fun t528 => (if t528 = true then ((columbariumlaw13_flat.f k t490 t491 t492 t493 t494 t495 t498 0).bind fun t529 => (columbariumlaw13_PredNormal.j0 k l1 (!t529) t465 t466 t467 t468 t469 t470 t473 t490 t491 t492 t493 t494 t495 t498 t505 t506 t507 t508 t509 t510 t513)) else (columbariumlaw13_PredNormal.j0 k l1 true t465 t466 t467 t468 t469 t470 t473 t490 t491 t492 t493 t494 t495 t498 t505 t506 t507 t508 t509 t510 t513))) = some r := H
   have A35 := zM A350
   clear A350
   replace H := Option.bind_eq_some_iff.mp H
   obtain ⟨t528, A360, H⟩ := H
   replace H : (if t528 = true then ((columbariumlaw13_flat.f k t490 t491 t492 t493 t494 t495 t498 0).bind fun t529 => (columbariumlaw13_PredNormal.j0 k l1 (!t529) t465 t466 t467 t468 t469 t470 t473 t490 t491 t492 t493 t494 t495 t498 t505 t506 t507 t508 t509 t510 t513)) else (columbariumlaw13_PredNormal.j0 k l1 true t465 t466 t467 t468 t469 t470 t473 t490 t491 t492 t493 t494 t495 t498 t505 t506 t507 t508 t509 t510 t513)) = some r := H
   have A36 := zM A360
   clear A360
   by_cases c37 : t528 = true
   ·subst c37
    have H1 : ((columbariumlaw13_flat.f k t490 t491 t492 t493 t494 t495 t498 0).bind fun t529 => (columbariumlaw13_PredNormal.j0 k l1 (!t529) t465 t466 t467 t468 t469 t470 t473 t490 t491 t492 t493 t494 t495 t498 t505 t506 t507 t508 t509 t510 t513)) = some r := by rw [if_pos rfl] at H; exact H
    clear H
    have H := H1
    clear H1
    replace H := Option.bind_eq_some_iff.mp H
    obtain ⟨t529, A380, H⟩ := H
    replace H : (columbariumlaw13_PredNormal.j0 k l1 (!t529) t465 t466 t467 t468 t469 t470 t473 t490 t491 t492 t493 t494 t495 t498 t505 t506 t507 t508 t509 t510 t513) = some r := H
    have A38 := zM A380
    clear A380
    have H' := Aside0.mk H
    clear H
    try go_wp2
    have n0_ : Aside0 (Kd.V Kd.string 9 (((((((w29.setCell ⟨gb516, 0, none⟩ (.int .i64 t505)).setCell ⟨gb516, 1, none⟩ (.string t506)).setCell ⟨gb516, 2, none⟩ (.int .i64 t507)).setCell ⟨gb516, 3, none⟩ (.int .i64 t508)).setCell ⟨gb516, 4, none⟩ (.string t509)).setCell ⟨gb516, 5, none⟩ (.slice Ao33 t510.length co33)).setCell ⟨gb516, 6, none⟩ (.slice Ao34 t513.length co34)) w.heap.size (fun k_ => some k_ ≠ (.slice Ao14 t473.length co14 : Value).ownBlock ∧ some k_ ≠ (.slice Ao27 y502.length co27 : Value).ownBlock ∧ k_ ≠ gb464 ∧ k_ ≠ gb501 ∧ k_ ≠ gb516) (.slice Ao13 t470.length co13) t470) := ⟨by (with_reducible repeat (first | apply Kd.V_alloc | apply Kd.V_drewN | apply Kd.V_drew)); exact Kd.V_mono (zgV (Kd.V_mono HO472.out (fun k_ hk => (⟨hk, hk.2⟩ : _ ∧ k_ ≠ gb516)))) (fun _ hk => ⟨hk.1.1.1.1, ⟨hk.1.1.2, ⟨hk.1.1.1.2.1, ⟨hk.1.1.1.2.2, hk.1.2⟩⟩⟩⟩)⟩
    have n1_ : Aside0 (Kd.V k25 25 (((((((w29.setCell ⟨gb516, 0, none⟩ (.int .i64 t505)).setCell ⟨gb516, 1, none⟩ (.string t506)).setCell ⟨gb516, 2, none⟩ (.int .i64 t507)).setCell ⟨gb516, 3, none⟩ (.int .i64 t508)).setCell ⟨gb516, 4, none⟩ (.string t509)).setCell ⟨gb516, 5, none⟩ (.slice Ao33 t510.length co33)).setCell ⟨gb516, 6, none⟩ (.slice Ao34 t513.length co34)) w.heap.size (fun k_ => some k_ ≠ (.slice Ao13 t470.length co13 : Value).ownBlock ∧ some k_ ≠ (.slice Ao27 y502.length co27 : Value).ownBlock ∧ k_ ≠ gb464 ∧ k_ ≠ gb501 ∧ k_ ≠ gb516) (.slice Ao14 t473.length co14) t473) := ⟨by (with_reducible repeat (first | apply Kd.V_alloc | apply Kd.V_drewN | apply Kd.V_drew)); exact Kd.V_mono (zgV (Kd.V_mono HO475.out (fun k_ hk => (⟨hk, hk.2⟩ : _ ∧ k_ ≠ gb516)))) (fun _ hk => ⟨hk.1.1.1.1, ⟨hk.1.1.2, ⟨hk.1.1.1.2.1, ⟨hk.1.1.1.2.2, hk.1.2⟩⟩⟩⟩)⟩
    have n2_ : Aside0 (Kd.V Kd.string 9 (((((((w29.setCell ⟨gb516, 0, none⟩ (.int .i64 t505)).setCell ⟨gb516, 1, none⟩ (.string t506)).setCell ⟨gb516, 2, none⟩ (.int .i64 t507)).setCell ⟨gb516, 3, none⟩ (.int .i64 t508)).setCell ⟨gb516, 4, none⟩ (.string t509)).setCell ⟨gb516, 5, none⟩ (.slice Ao33 t510.length co33)).setCell ⟨gb516, 6, none⟩ (.slice Ao34 t513.length co34)) w.heap.size (fun k_ => some k_ ≠ (.slice Ao13 t470.length co13 : Value).ownBlock ∧ some k_ ≠ (.slice Ao14 t473.length co14 : Value).ownBlock ∧ some k_ ≠ (.slice Ao27 y502.length co27 : Value).ownBlock ∧ k_ ≠ gb464 ∧ k_ ≠ gb501 ∧ k_ ≠ gb516) (.slice Ao21 t495.length co21) t495) := ⟨by (with_reducible repeat (first | apply Kd.V_alloc | apply Kd.V_drewN | apply Kd.V_drew)); exact Kd.V_mono (zgV (Kd.V_mono HO497.out (fun k_ hk => (⟨hk, hk.2⟩ : _ ∧ k_ ≠ gb516)))) (fun _ hk => ⟨hk.1.1.1.1, ⟨hk.1.1.1.2.1, ⟨hk.1.1.2, ⟨hk.1.1.1.2.2.1, ⟨hk.1.1.1.2.2.2, hk.1.2⟩⟩⟩⟩⟩)⟩
    have n3_ : Aside0 (Kd.V k25 25 (((((((w29.setCell ⟨gb516, 0, none⟩ (.int .i64 t505)).setCell ⟨gb516, 1, none⟩ (.string t506)).setCell ⟨gb516, 2, none⟩ (.int .i64 t507)).setCell ⟨gb516, 3, none⟩ (.int .i64 t508)).setCell ⟨gb516, 4, none⟩ (.string t509)).setCell ⟨gb516, 5, none⟩ (.slice Ao33 t510.length co33)).setCell ⟨gb516, 6, none⟩ (.slice Ao34 t513.length co34)) w.heap.size (fun k_ => some k_ ≠ (.slice Ao13 t470.length co13 : Value).ownBlock ∧ some k_ ≠ (.slice Ao14 t473.length co14 : Value).ownBlock ∧ some k_ ≠ (.slice Ao27 y502.length co27 : Value).ownBlock ∧ k_ ≠ gb464 ∧ k_ ≠ gb501 ∧ k_ ≠ gb516) (.slice Ao22 t498.length co22) t498) := ⟨by (with_reducible repeat (first | apply Kd.V_alloc | apply Kd.V_drewN | apply Kd.V_drew)); exact Kd.V_mono (zgV (Kd.V_mono HO500.out (fun k_ hk => (⟨hk, hk.2⟩ : _ ∧ k_ ≠ gb516)))) (fun _ hk => ⟨hk.1.1.1.1, ⟨hk.1.1.1.2.1, ⟨hk.1.1.2, ⟨hk.1.1.1.2.2.1, ⟨hk.1.1.1.2.2.2, hk.1.2⟩⟩⟩⟩⟩)⟩
    have n4_ : Aside0 (Kd.N k25 25 (((((((w29.setCell ⟨gb516, 0, none⟩ (.int .i64 t505)).setCell ⟨gb516, 1, none⟩ (.string t506)).setCell ⟨gb516, 2, none⟩ (.int .i64 t507)).setCell ⟨gb516, 3, none⟩ (.int .i64 t508)).setCell ⟨gb516, 4, none⟩ (.string t509)).setCell ⟨gb516, 5, none⟩ (.slice Ao33 t510.length co33)).setCell ⟨gb516, 6, none⟩ (.slice Ao34 t513.length co34)) w.heap.size (fun k_ => k_ ≠ gb464 ∧ k_ ≠ gb501 ∧ k_ ≠ gb516) (.slice Ao27 y502.length co27) y502) := ⟨by (with_reducible repeat (first | apply Kd.N_alloc | apply Kd.N_drewN | apply Kd.N_drew)); exact Kd.N_mono (zgN (Kd.N_mono HO504.out (fun k_ hk => (⟨hk, hk.2⟩ : _ ∧ k_ ≠ gb516)))) (fun _ hk => ⟨hk.1.1.1, ⟨hk.1.1.2, hk.1.2⟩⟩)⟩
    have n5_ : Aside0 (Kd.V Kd.string 9 (((((((w29.setCell ⟨gb516, 0, none⟩ (.int .i64 t505)).setCell ⟨gb516, 1, none⟩ (.string t506)).setCell ⟨gb516, 2, none⟩ (.int .i64 t507)).setCell ⟨gb516, 3, none⟩ (.int .i64 t508)).setCell ⟨gb516, 4, none⟩ (.string t509)).setCell ⟨gb516, 5, none⟩ (.slice Ao33 t510.length co33)).setCell ⟨gb516, 6, none⟩ (.slice Ao34 t513.length co34)) w.heap.size (fun k_ => some k_ ≠ (.slice Ao27 y502.length co27 : Value).ownBlock ∧ k_ ≠ gb464 ∧ k_ ≠ gb501 ∧ k_ ≠ gb516) (.slice Ao33 t510.length co33) t510) := ⟨by (with_reducible repeat (first | apply Kd.V_alloc | apply Kd.V_drewN | apply Kd.V_drew)); exact Kd.V_mono (zgV (Kd.V_mono HO512.out (fun k_ hk => (⟨hk, hk.2⟩ : _ ∧ k_ ≠ gb516)))) (fun _ hk => ⟨hk.1.1.1, ⟨hk.1.1.2.1, ⟨hk.1.1.2.2, hk.1.2⟩⟩⟩)⟩
    have n6_ : Aside0 (Kd.V k25 25 (((((((w29.setCell ⟨gb516, 0, none⟩ (.int .i64 t505)).setCell ⟨gb516, 1, none⟩ (.string t506)).setCell ⟨gb516, 2, none⟩ (.int .i64 t507)).setCell ⟨gb516, 3, none⟩ (.int .i64 t508)).setCell ⟨gb516, 4, none⟩ (.string t509)).setCell ⟨gb516, 5, none⟩ (.slice Ao33 t510.length co33)).setCell ⟨gb516, 6, none⟩ (.slice Ao34 t513.length co34)) w.heap.size (fun k_ => some k_ ≠ (.slice Ao27 y502.length co27 : Value).ownBlock ∧ k_ ≠ gb464 ∧ k_ ≠ gb501 ∧ k_ ≠ gb516) (.slice Ao34 t513.length co34) t513) := ⟨by (with_reducible repeat (first | apply Kd.V_alloc | apply Kd.V_drewN | apply Kd.V_drew)); exact Kd.V_mono (zgV (Kd.V_mono HO515.out (fun k_ hk => (⟨hk, hk.2⟩ : _ ∧ k_ ≠ gb516)))) (fun _ hk => ⟨hk.1.1.1, ⟨hk.1.1.2.1, ⟨hk.1.1.2.2, hk.1.2⟩⟩⟩)⟩
    have n7_ : Aside0 ((((((((w29.setCell ⟨gb516, 0, none⟩ (.int .i64 t505)).setCell ⟨gb516, 1, none⟩ (.string t506)).setCell ⟨gb516, 2, none⟩ (.int .i64 t507)).setCell ⟨gb516, 3, none⟩ (.int .i64 t508)).setCell ⟨gb516, 4, none⟩ (.string t509)).setCell ⟨gb516, 5, none⟩ (.slice Ao33 t510.length co33)).setCell ⟨gb516, 6, none⟩ (.slice Ao34 t513.length co34)).heap[gb464]? = some (.cells #[.int .i64 t465, .string t466, .int .i64 t467, .int .i64 t468, .string t469, .slice Ao13 t470.length co13, .slice Ao14 t473.length co14] 25 (0, 0))) := ⟨by (with_reducible repeat (first | refine blk_drewN ?_ _ | refine blk_drew ?_ | refine blk_alloc ?_ _)); refine blk_far ?_ NB464_516.out _; refine blk_far ?_ NB464_516.out _; refine blk_far ?_ NB464_516.out _; refine blk_far ?_ NB464_516.out _; refine blk_far ?_ NB464_516.out _; refine blk_far ?_ NB464_516.out _; refine blk_far ?_ NB464_516.out _; (with_reducible repeat (first | refine blk_drewN ?_ _ | refine blk_drew ?_ | refine blk_alloc ?_ _)); exact BK464.out⟩
    have n8_ : Aside0 ((((((((w29.setCell ⟨gb516, 0, none⟩ (.int .i64 t505)).setCell ⟨gb516, 1, none⟩ (.string t506)).setCell ⟨gb516, 2, none⟩ (.int .i64 t507)).setCell ⟨gb516, 3, none⟩ (.int .i64 t508)).setCell ⟨gb516, 4, none⟩ (.string t509)).setCell ⟨gb516, 5, none⟩ (.slice Ao33 t510.length co33)).setCell ⟨gb516, 6, none⟩ (.slice Ao34 t513.length co34)).heap[gb501]? = some (.cells #[.int .i64 t490, .string t491, .int .i64 t492, .int .i64 t493, .string t494, .slice Ao21 t495.length co21, .slice Ao22 t498.length co22] 25 (0, 0))) := ⟨by (with_reducible repeat (first | refine blk_drewN ?_ _ | refine blk_drew ?_ | refine blk_alloc ?_ _)); refine blk_far ?_ NB501_516.out _; refine blk_far ?_ NB501_516.out _; refine blk_far ?_ NB501_516.out _; refine blk_far ?_ NB501_516.out _; refine blk_far ?_ NB501_516.out _; refine blk_far ?_ NB501_516.out _; refine blk_far ?_ NB501_516.out _; (with_reducible repeat (first | refine blk_drewN ?_ _ | refine blk_drew ?_ | refine blk_alloc ?_ _)); exact BK501.out⟩
    have n9_ : Aside0 ((((((((w29.setCell ⟨gb516, 0, none⟩ (.int .i64 t505)).setCell ⟨gb516, 1, none⟩ (.string t506)).setCell ⟨gb516, 2, none⟩ (.int .i64 t507)).setCell ⟨gb516, 3, none⟩ (.int .i64 t508)).setCell ⟨gb516, 4, none⟩ (.string t509)).setCell ⟨gb516, 5, none⟩ (.slice Ao33 t510.length co33)).setCell ⟨gb516, 6, none⟩ (.slice Ao34 t513.length co34)).heap[gb516]? = some (.cells #[.int .i64 t505, .string t506, .int .i64 t507, .int .i64 t508, .string t509, .slice Ao33 t510.length co33, .slice Ao34 t513.length co34] 25 (0, 0))) := ⟨by (with_reducible repeat (first | refine blk_drewN ?_ _ | refine blk_drew ?_ | refine blk_alloc ?_ _)); apply puts_7; (with_reducible repeat (first | refine blk_drewN ?_ _ | refine blk_drew ?_ | refine blk_alloc ?_ _)); exact BK516.out⟩
    have n10_ : Aside0 (Below w.heap.size w (((((((w29.setCell ⟨gb516, 0, none⟩ (.int .i64 t505)).setCell ⟨gb516, 1, none⟩ (.string t506)).setCell ⟨gb516, 2, none⟩ (.int .i64 t507)).setCell ⟨gb516, 3, none⟩ (.int .i64 t508)).setCell ⟨gb516, 4, none⟩ (.string t509)).setCell ⟨gb516, 5, none⟩ (.slice Ao33 t510.length co33)).setCell ⟨gb516, 6, none⟩ (.slice Ao34 t513.length co34))) := ⟨mZ⟩
    (try clear HO472)
    (try clear HO475)
    (try clear HO497)
    (try clear HO500)
    (try clear HO504)
    (try clear HO512)
    (try clear HO515)
    (try clear BK464)
    (try clear BK501)
    (try clear BK516)
    (try clear HB)
    generalize (((((((w29.setCell ⟨gb516, 0, none⟩ (.int .i64 t505)).setCell ⟨gb516, 1, none⟩ (.string t506)).setCell ⟨gb516, 2, none⟩ (.int .i64 t507)).setCell ⟨gb516, 3, none⟩ (.int .i64 t508)).setCell ⟨gb516, 4, none⟩ (.string t509)).setCell ⟨gb516, 5, none⟩ (.slice Ao33 t510.length co33)).setCell ⟨gb516, 6, none⟩ (.slice Ao34 t513.length co34)) = w39 at n0_ n1_ n2_ n3_ n4_ n5_ n6_ n7_ n8_ n9_ n10_ ⊢
    have HO472 := n0_
    have HO475 := n1_
    have HO497 := n2_
    have HO500 := n3_
    have HO504 := n4_
    have HO512 := n5_
    have HO515 := n6_
    have BK464 := n7_
    have BK501 := n8_
    have BK516 := n9_
    have HB := n10_
    clear n0_ n1_ n2_ n3_ n4_ n5_ n6_ n7_ n8_ n9_ n10_
    replace HO472 := zM (Kd.V_drew HO472.out)
    replace HO475 := zM (Kd.V_drew HO475.out)
    replace HO497 := zM (Kd.V_drew HO497.out)
    replace HO500 := zM (Kd.V_drew HO500.out)
    replace HO504 := zM (Kd.N_drew HO504.out)
    replace HO512 := zM (Kd.V_drew HO512.out)
    replace HO515 := zM (Kd.V_drew HO515.out)
    replace BK464 := zM (blk_drew BK464.out)
    replace BK501 := zM (blk_drew BK501.out)
    replace BK516 := zM (blk_drew BK516.out)
    replace HB := zM (below_drew1 HB.out)
    refine start_ (n := 10) (S := fun w' => w'.cell? ⟨gb501, 0, none⟩ = some (.int .i64 t490) ∧ w'.cell? ⟨gb501, 1, none⟩ = some (.string t491) ∧ w'.cell? ⟨gb501, 2, none⟩ = some (.int .i64 t492) ∧ w'.cell? ⟨gb501, 3, none⟩ = some (.int .i64 t493) ∧ w'.cell? ⟨gb501, 4, none⟩ = some (.string t494) ∧ w'.cell? ⟨gb501, 5, none⟩ = some (.slice Ao21 t495.length co21) ∧ w'.cell? ⟨gb501, 6, none⟩ = some (.slice Ao22 t498.length co22)) (ds := []) #[false, false, false, false, false, false, false, false, false, false] (by kernel_rfl) rfl rfl (zJ7 BK501) (fun hHeld => ?_); refine with_tabW columbariumlaw13_PredNormal.tab6 columbariumlaw13_PredNormal.bits6 (fun HT_ HW_ => ?_)
    generalize w39.drew = w40 at HO472 HO475 HO497 HO500 HO504 HO512 HO515 BK464 BK501 BK516 HB hHeld ⊢
    refine take_ (i := 0) (N := some 28) (v := ?_) (a' := ?_) #[true, false, false, false, false, false, false, false, false, false] rfl rfl (take_ofW HT_.out HW_.out (by kernel_rfl)) (fun _ _ _ h => h) (Or.inl ⟨by rfl, ?_⟩) hHeld ?_ ?_
    rotate_left
    ·rintro w' ⟨s0, s1, s2, s3, s4, s5, s6⟩
     go_simp
     with_reducible rfl
    rotate_left
    ·simp only [Act.put, List.setIfInBounds_toArray, List.set_cons_zero, List.set_cons_succ, i64_w, i32_w]
     rfl
    refine take_ (i := 2) (N := some 30) (v := ?_) (a' := ?_) #[true, false, true, false, false, false, false, false, false, false] rfl rfl (take_ofW HT_.out HW_.out (by kernel_rfl)) (fun _ _ _ h => h) (Or.inl ⟨by rfl, ?_⟩) hHeld ?_ ?_
    rotate_left
    ·rintro w' ⟨s0, s1, s2, s3, s4, s5, s6⟩
     go_simp
     with_reducible rfl
    rotate_left
    ·simp only [Act.put, List.setIfInBounds_toArray, List.set_cons_zero, List.set_cons_succ, i64_w, i32_w]
     rfl
    refine one_ (i := 1) (N := some 29) #[true, true, true, false, false, false, false, false, false, false] rfl rfl (one_of HT_.out (by kernel_rfl)) (by decide) (fun K hK => ?_)
    refine goes_ Try.func10 (by kernel_rfl) rfl #[.agg #[.int .i64 t490, .string t491, .int .i64 t492, .int .i64 t493, .string t494, .slice Ao21 t495.length co21, .slice Ao22 t498.length co22]] (by rfl) rfl rfl yb ?_
    with_reducible refine (pred_Normal.calls k t490 t491 t492 t493 t494 _ _ t495 _ _ t498 t517 t518 t519 t520 t521 t522 t525 _ ?side1 ?side2 ?side3 ?side4 A35.out).mono ?_
    (case side1 => exact zC ((Kd.V_reads' HO497.out).2.2))
    (case side2 => exact (Kd.V_reads' HO497.out).2.1)
    (case side3 => exact zC ((Kd.V_reads' HO500.out).2.2))
    (case side4 => exact (Kd.V_reads' HO500.out).2.1)
    rintro e w41 ⟨v523, v526, rfl, ho0, ho1, hb⟩
    refine ⟨_, rfl, ?_⟩
    replace HO472 := zV HO472 hb
    replace HO475 := zV HO475 hb
    replace HO497 := zV HO497 hb
    replace HO500 := zV HO500 hb
    replace HO512 := zV HO512 hb
    replace HO515 := zV HO515 hb
    have HO524 := zM (Kd.V_lower (Kd.V_mono (ok' := fun k_ => some k_ ≠ (.slice Ao27 y502.length co27 : Value).ownBlock ∧ k_ ≠ gb464 ∧ k_ ≠ gb501 ∧ k_ ≠ gb516) ho0 (fun k_ hk_ => ⟨(Kd.fresh' (Kd.N_lt (mN HO504.out)) k_ hk_), (Kd.freshB (mK BK464.out) k_ hk_), (Kd.freshB (mK BK501.out) k_ hk_), (Kd.freshB (mK BK516.out) k_ hk_)⟩)) (below_size mZ))
    have HO527 := zM (Kd.V_lower (Kd.V_mono (ok' := fun k_ => some k_ ≠ (.slice Ao27 y502.length co27 : Value).ownBlock ∧ k_ ≠ gb464 ∧ k_ ≠ gb501 ∧ k_ ≠ gb516) ho1 (fun k_ hk_ => ⟨(Kd.fresh' (Kd.N_lt (mN HO504.out)) k_ hk_), (Kd.freshB (mK BK464.out) k_ hk_), (Kd.freshB (mK BK501.out) k_ hk_), (Kd.freshB (mK BK516.out) k_ hk_)⟩)) (below_size mZ))
    replace HO504 := zN HO504 hb
    replace BK464 := zK BK464 hb
    replace BK501 := zK BK501 hb
    replace BK516 := zK BK516 hb
    replace HB := zM (below_step mZ hb)
    (try clear hb)
    (try clear hb2)
    (try clear hk)
    (try clear hi)
    (try clear ho0)
    (try clear ho1)
    obtain ⟨Ao42, co42, eo42⟩ := Kd.V_slice HO524.out
    (first | subst eo42 | (injection eo42 with f1_ f2_ f3_; have f4_ := f1_.symm; have f5_ := f3_.symm; clear f1_ f2_ f3_; subst f4_; subst f5_))
    obtain ⟨Ao43, co43, eo43⟩ := Kd.V_slice HO527.out
    (first | subst eo43 | (injection eo43 with f1_ f2_ f3_; have f4_ := f1_.symm; have f5_ := f3_.symm; clear f1_ f2_ f3_; subst f4_; subst f5_))
    refine hK.out _ _ (zJ7 BK501) (fun hHeld => ?_)
    clear hK K
    refine norm_ (a' := ?_) ?_ ?_
    rotate_left
    ·show Act.put _ (some 29) _ = _
     simp only [Act.put, List.setIfInBounds_toArray, List.set_cons_zero, List.set_cons_succ, i64_w, i32_w]
     rfl
    refine one_ (i := 3) (N := some 31) #[true, true, true, true, false, false, false, false, false, false] rfl rfl (one_of HT_.out (by kernel_rfl)) (by decide) (fun K hK => ?_)
    refine goes_ Try.func9 (by kernel_rfl) rfl #[.agg #[.int .i64 t517, .string t518, .int .i64 t519, .int .i64 t520, .string t521, .slice Ao42 t522.length co42, .slice Ao43 t525.length co43], .agg #[.int .i64 t490, .string t491, .int .i64 t492, .int .i64 t493, .string t494, .slice Ao21 t495.length co21, .slice Ao22 t498.length co22]] (by rfl) rfl rfl yb ?_
    with_reducible refine (columbariumkeep_Pred.calls k t517 t518 t519 t520 t521 _ _ t522 _ _ t525 t490 t491 t492 t493 t494 _ _ t495 _ _ t498 true _ ?side1 ?side2 ?side3 ?side4 ?side5 ?side6 ?side7 ?side8 A36.out).mono ?_
    (case side1 => exact zC ((Kd.V_reads' HO524.out).2.2))
    (case side2 => exact (Kd.V_reads' HO524.out).2.1)
    (case side3 => exact zC ((Kd.V_reads' HO527.out).2.2))
    (case side4 => exact (Kd.V_reads' HO527.out).2.1)
    (case side5 => exact zC ((Kd.V_reads' HO497.out).2.2))
    (case side6 => exact (Kd.V_reads' HO497.out).2.1)
    (case side7 => exact zC ((Kd.V_reads' HO500.out).2.2))
    (case side8 => exact (Kd.V_reads' HO500.out).2.1)
    rintro e w44 ⟨rfl, hb⟩
    refine ⟨_, rfl, ?_⟩
    replace HO472 := zV HO472 hb
    replace HO475 := zV HO475 hb
    replace HO497 := zV HO497 hb
    replace HO500 := zV HO500 hb
    replace HO504 := zN HO504 hb
    replace HO512 := zV HO512 hb
    replace HO515 := zV HO515 hb
    replace HO524 := zV HO524 hb
    replace HO527 := zV HO527 hb
    replace BK464 := zK BK464 hb
    replace BK501 := zK BK501 hb
    replace BK516 := zK BK516 hb
    replace HB := zM (below_step mZ hb)
    (try clear hb)
    (try clear hb2)
    (try clear hk)
    (try clear hi)
    refine hK.out _ _ (zJ7 BK501) (fun hHeld => ?_)
    clear hK K
    refine norm_ (a' := ?_) ?_ ?_
    rotate_left
    ·show Act.put _ (some 31) _ = _
     simp only [Act.put, List.setIfInBounds_toArray, List.set_cons_zero, List.set_cons_succ, i64_w, i32_w]
     rfl
    refine pure_ (i := 4) (N := some 32) (v := ?_) (a' := ?_) #[true, true, true, true, true, false, false, false, false, false] rfl rfl (any_of HT_.out (by kernel_rfl)) (fun _ _ _ h => h) (Or.inl ⟨by rfl, ?_⟩) ?_ ?_
    rotate_left
    ·intro w'
     go_simp
     with_reducible rfl
    rotate_left
    ·simp only [Act.put, List.setIfInBounds_toArray, List.set_cons_zero, List.set_cons_succ, i64_w, i32_w]
     rfl
    refine pure_ (i := 5) (N := some 33) (v := ?_) (a' := ?_) #[true, true, true, true, true, true, false, false, false, false] rfl rfl (any_of HT_.out (by kernel_rfl)) (fun _ _ _ h => h) (Or.inl ⟨by rfl, ?_⟩) ?_ ?_
    rotate_left
    ·intro w'
     go_simp
     with_reducible rfl
    rotate_left
    ·simp only [Act.put, List.setIfInBounds_toArray, List.set_cons_zero, List.set_cons_succ, i64_w, i32_w]
     rfl
    refine take_ (i := 6) (N := some 34) (v := ?_) (a' := ?_) #[true, true, true, true, true, true, true, false, false, false] rfl rfl (take_ofW HT_.out HW_.out (by kernel_rfl)) (fun _ _ _ h => h) (Or.inl ⟨by rfl, ?_⟩) hHeld ?_ ?_
    rotate_left
    ·rintro w' ⟨s0, s1, s2, s3, s4, s5, s6⟩
     go_simp
     with_reducible rfl
    rotate_left
    ·simp only [Act.put, List.setIfInBounds_toArray, List.set_cons_zero, List.set_cons_succ, i64_w, i32_w]
     rfl
    refine one_ (i := 7) (N := some 35) #[true, true, true, true, true, true, true, true, false, false] rfl rfl (one_of HT_.out (by kernel_rfl)) (by decide) (fun K hK => ?_)
    refine goes_ Try.func12 (by kernel_rfl) rfl #[.agg #[.int .i64 t490, .string t491, .int .i64 t492, .int .i64 t493, .string t494, .slice Ao21 t495.length co21, .slice Ao22 t498.length co22], .int .i64 0] (by rfl) rfl rfl yb ?_
    with_reducible refine (columbariumlaw13_flat.calls k t490 t491 t492 t493 t494 _ _ t495 _ _ t498 0 t529 _ ?side1 ?side2 ?side3 ?side4 A38.out).mono ?_
    (case side1 => exact zC ((Kd.V_reads' HO497.out).2.2))
    (case side2 => exact (Kd.V_reads' HO497.out).2.1)
    (case side3 => exact zC ((Kd.V_reads' HO500.out).2.2))
    (case side4 => exact (Kd.V_reads' HO500.out).2.1)
    rintro e w45 ⟨rfl, hb⟩
    refine ⟨_, rfl, ?_⟩
    replace HO472 := zV HO472 hb
    replace HO475 := zV HO475 hb
    replace HO497 := zV HO497 hb
    replace HO500 := zV HO500 hb
    replace HO504 := zN HO504 hb
    replace HO512 := zV HO512 hb
    replace HO515 := zV HO515 hb
    replace HO524 := zV HO524 hb
    replace HO527 := zV HO527 hb
    replace BK464 := zK BK464 hb
    replace BK501 := zK BK501 hb
    replace BK516 := zK BK516 hb
    replace HB := zM (below_step mZ hb)
    (try clear hb)
    (try clear hb2)
    (try clear hk)
    (try clear hi)
    refine hK.out _ _ (zJ7 BK501) (fun hHeld => ?_)
    clear hK K
    refine norm_ (a' := ?_) ?_ ?_
    rotate_left
    ·show Act.put _ (some 35) _ = _
     simp only [Act.put, List.setIfInBounds_toArray, List.set_cons_zero, List.set_cons_succ, i64_w, i32_w]
     rfl
    refine pure_ (i := 8) (N := some 36) (v := ?_) (a' := ?_) #[true, true, true, true, true, true, true, true, true, false] rfl rfl (any_of HT_.out (by kernel_rfl)) (fun _ _ _ h => h) (Or.inl ⟨by rfl, ?_⟩) ?_ ?_
    rotate_left
    ·intro w'
     go_simp
     with_reducible rfl
    rotate_left
    ·simp only [Act.put, List.setIfInBounds_toArray, List.set_cons_zero, List.set_cons_succ, i64_w, i32_w]
     rfl
    refine pure_ (i := 9) (N := some 37) (v := ?_) (a' := ?_) #[true, true, true, true, true, true, true, true, true, true] rfl rfl (any_of HT_.out (by kernel_rfl)) (fun _ _ _ h => h) (Or.inl ⟨by rfl, ?_⟩) ?_ ?_
    rotate_left
    ·intro w'
     go_simp
     with_reducible rfl
    rotate_left
    ·simp only [Act.put, List.setIfInBounds_toArray, List.set_cons_zero, List.set_cons_succ, i64_w, i32_w]
     rfl
    refine done_ (done_of HT_.out (by kernel_rfl)) ?_
    try go_wp2
    go_meet
    case rel => exact ⟨_, (!t529), ya, H', ⟨by first | omega | exact Nat.le_refl _⟩, ⟨yV HO472 (fun _ hk => ⟨hk.2.2.1, ⟨hk.2.2.2.1, hk.2.2.2.2⟩⟩)⟩, ⟨yV HO475 (fun _ hk => ⟨hk.2.2.1, ⟨hk.2.2.2.1, hk.2.2.2.2⟩⟩)⟩, ⟨yV HO497 (fun _ hk => ⟨hk.2.2.2.1, ⟨hk.2.2.2.2.1, hk.2.2.2.2.2⟩⟩)⟩, ⟨yV HO500 (fun _ hk => ⟨hk.2.2.2.1, ⟨hk.2.2.2.2.1, hk.2.2.2.2.2⟩⟩)⟩, ⟨yV HO512 (fun _ hk => ⟨hk.2.1, ⟨hk.2.2.1, hk.2.2.2⟩⟩)⟩, ⟨yV HO515 (fun _ hk => ⟨hk.2.1, ⟨hk.2.2.1, hk.2.2.2⟩⟩)⟩, ⟨mK BK464.out⟩, ⟨mK BK501.out⟩, ⟨mK BK516.out⟩, ⟨mZ⟩⟩
   ·replace c37 := Bool.eq_false_iff.mpr c37
    subst c37
    have H1 : (columbariumlaw13_PredNormal.j0 k l1 true t465 t466 t467 t468 t469 t470 t473 t490 t491 t492 t493 t494 t495 t498 t505 t506 t507 t508 t509 t510 t513) = some r := by rw [if_neg (show ¬ (false = true) by decide)] at H; exact H
    clear H
    have H := H1
    clear H1
    have H' := Aside0.mk H
    clear H
    try go_wp2
    have n0_ : Aside0 (Kd.V Kd.string 9 (((((((w29.setCell ⟨gb516, 0, none⟩ (.int .i64 t505)).setCell ⟨gb516, 1, none⟩ (.string t506)).setCell ⟨gb516, 2, none⟩ (.int .i64 t507)).setCell ⟨gb516, 3, none⟩ (.int .i64 t508)).setCell ⟨gb516, 4, none⟩ (.string t509)).setCell ⟨gb516, 5, none⟩ (.slice Ao33 t510.length co33)).setCell ⟨gb516, 6, none⟩ (.slice Ao34 t513.length co34)) w.heap.size (fun k_ => some k_ ≠ (.slice Ao14 t473.length co14 : Value).ownBlock ∧ some k_ ≠ (.slice Ao27 y502.length co27 : Value).ownBlock ∧ k_ ≠ gb464 ∧ k_ ≠ gb501 ∧ k_ ≠ gb516) (.slice Ao13 t470.length co13) t470) := ⟨by (with_reducible repeat (first | apply Kd.V_alloc | apply Kd.V_drewN | apply Kd.V_drew)); exact Kd.V_mono (zgV (Kd.V_mono HO472.out (fun k_ hk => (⟨hk, hk.2⟩ : _ ∧ k_ ≠ gb516)))) (fun _ hk => ⟨hk.1.1.1.1, ⟨hk.1.1.2, ⟨hk.1.1.1.2.1, ⟨hk.1.1.1.2.2, hk.1.2⟩⟩⟩⟩)⟩
    have n1_ : Aside0 (Kd.V k25 25 (((((((w29.setCell ⟨gb516, 0, none⟩ (.int .i64 t505)).setCell ⟨gb516, 1, none⟩ (.string t506)).setCell ⟨gb516, 2, none⟩ (.int .i64 t507)).setCell ⟨gb516, 3, none⟩ (.int .i64 t508)).setCell ⟨gb516, 4, none⟩ (.string t509)).setCell ⟨gb516, 5, none⟩ (.slice Ao33 t510.length co33)).setCell ⟨gb516, 6, none⟩ (.slice Ao34 t513.length co34)) w.heap.size (fun k_ => some k_ ≠ (.slice Ao13 t470.length co13 : Value).ownBlock ∧ some k_ ≠ (.slice Ao27 y502.length co27 : Value).ownBlock ∧ k_ ≠ gb464 ∧ k_ ≠ gb501 ∧ k_ ≠ gb516) (.slice Ao14 t473.length co14) t473) := ⟨by (with_reducible repeat (first | apply Kd.V_alloc | apply Kd.V_drewN | apply Kd.V_drew)); exact Kd.V_mono (zgV (Kd.V_mono HO475.out (fun k_ hk => (⟨hk, hk.2⟩ : _ ∧ k_ ≠ gb516)))) (fun _ hk => ⟨hk.1.1.1.1, ⟨hk.1.1.2, ⟨hk.1.1.1.2.1, ⟨hk.1.1.1.2.2, hk.1.2⟩⟩⟩⟩)⟩
    have n2_ : Aside0 (Kd.V Kd.string 9 (((((((w29.setCell ⟨gb516, 0, none⟩ (.int .i64 t505)).setCell ⟨gb516, 1, none⟩ (.string t506)).setCell ⟨gb516, 2, none⟩ (.int .i64 t507)).setCell ⟨gb516, 3, none⟩ (.int .i64 t508)).setCell ⟨gb516, 4, none⟩ (.string t509)).setCell ⟨gb516, 5, none⟩ (.slice Ao33 t510.length co33)).setCell ⟨gb516, 6, none⟩ (.slice Ao34 t513.length co34)) w.heap.size (fun k_ => some k_ ≠ (.slice Ao13 t470.length co13 : Value).ownBlock ∧ some k_ ≠ (.slice Ao14 t473.length co14 : Value).ownBlock ∧ some k_ ≠ (.slice Ao27 y502.length co27 : Value).ownBlock ∧ k_ ≠ gb464 ∧ k_ ≠ gb501 ∧ k_ ≠ gb516) (.slice Ao21 t495.length co21) t495) := ⟨by (with_reducible repeat (first | apply Kd.V_alloc | apply Kd.V_drewN | apply Kd.V_drew)); exact Kd.V_mono (zgV (Kd.V_mono HO497.out (fun k_ hk => (⟨hk, hk.2⟩ : _ ∧ k_ ≠ gb516)))) (fun _ hk => ⟨hk.1.1.1.1, ⟨hk.1.1.1.2.1, ⟨hk.1.1.2, ⟨hk.1.1.1.2.2.1, ⟨hk.1.1.1.2.2.2, hk.1.2⟩⟩⟩⟩⟩)⟩
    have n3_ : Aside0 (Kd.V k25 25 (((((((w29.setCell ⟨gb516, 0, none⟩ (.int .i64 t505)).setCell ⟨gb516, 1, none⟩ (.string t506)).setCell ⟨gb516, 2, none⟩ (.int .i64 t507)).setCell ⟨gb516, 3, none⟩ (.int .i64 t508)).setCell ⟨gb516, 4, none⟩ (.string t509)).setCell ⟨gb516, 5, none⟩ (.slice Ao33 t510.length co33)).setCell ⟨gb516, 6, none⟩ (.slice Ao34 t513.length co34)) w.heap.size (fun k_ => some k_ ≠ (.slice Ao13 t470.length co13 : Value).ownBlock ∧ some k_ ≠ (.slice Ao14 t473.length co14 : Value).ownBlock ∧ some k_ ≠ (.slice Ao27 y502.length co27 : Value).ownBlock ∧ k_ ≠ gb464 ∧ k_ ≠ gb501 ∧ k_ ≠ gb516) (.slice Ao22 t498.length co22) t498) := ⟨by (with_reducible repeat (first | apply Kd.V_alloc | apply Kd.V_drewN | apply Kd.V_drew)); exact Kd.V_mono (zgV (Kd.V_mono HO500.out (fun k_ hk => (⟨hk, hk.2⟩ : _ ∧ k_ ≠ gb516)))) (fun _ hk => ⟨hk.1.1.1.1, ⟨hk.1.1.1.2.1, ⟨hk.1.1.2, ⟨hk.1.1.1.2.2.1, ⟨hk.1.1.1.2.2.2, hk.1.2⟩⟩⟩⟩⟩)⟩
    have n4_ : Aside0 (Kd.N k25 25 (((((((w29.setCell ⟨gb516, 0, none⟩ (.int .i64 t505)).setCell ⟨gb516, 1, none⟩ (.string t506)).setCell ⟨gb516, 2, none⟩ (.int .i64 t507)).setCell ⟨gb516, 3, none⟩ (.int .i64 t508)).setCell ⟨gb516, 4, none⟩ (.string t509)).setCell ⟨gb516, 5, none⟩ (.slice Ao33 t510.length co33)).setCell ⟨gb516, 6, none⟩ (.slice Ao34 t513.length co34)) w.heap.size (fun k_ => k_ ≠ gb464 ∧ k_ ≠ gb501 ∧ k_ ≠ gb516) (.slice Ao27 y502.length co27) y502) := ⟨by (with_reducible repeat (first | apply Kd.N_alloc | apply Kd.N_drewN | apply Kd.N_drew)); exact Kd.N_mono (zgN (Kd.N_mono HO504.out (fun k_ hk => (⟨hk, hk.2⟩ : _ ∧ k_ ≠ gb516)))) (fun _ hk => ⟨hk.1.1.1, ⟨hk.1.1.2, hk.1.2⟩⟩)⟩
    have n5_ : Aside0 (Kd.V Kd.string 9 (((((((w29.setCell ⟨gb516, 0, none⟩ (.int .i64 t505)).setCell ⟨gb516, 1, none⟩ (.string t506)).setCell ⟨gb516, 2, none⟩ (.int .i64 t507)).setCell ⟨gb516, 3, none⟩ (.int .i64 t508)).setCell ⟨gb516, 4, none⟩ (.string t509)).setCell ⟨gb516, 5, none⟩ (.slice Ao33 t510.length co33)).setCell ⟨gb516, 6, none⟩ (.slice Ao34 t513.length co34)) w.heap.size (fun k_ => some k_ ≠ (.slice Ao27 y502.length co27 : Value).ownBlock ∧ k_ ≠ gb464 ∧ k_ ≠ gb501 ∧ k_ ≠ gb516) (.slice Ao33 t510.length co33) t510) := ⟨by (with_reducible repeat (first | apply Kd.V_alloc | apply Kd.V_drewN | apply Kd.V_drew)); exact Kd.V_mono (zgV (Kd.V_mono HO512.out (fun k_ hk => (⟨hk, hk.2⟩ : _ ∧ k_ ≠ gb516)))) (fun _ hk => ⟨hk.1.1.1, ⟨hk.1.1.2.1, ⟨hk.1.1.2.2, hk.1.2⟩⟩⟩)⟩
    have n6_ : Aside0 (Kd.V k25 25 (((((((w29.setCell ⟨gb516, 0, none⟩ (.int .i64 t505)).setCell ⟨gb516, 1, none⟩ (.string t506)).setCell ⟨gb516, 2, none⟩ (.int .i64 t507)).setCell ⟨gb516, 3, none⟩ (.int .i64 t508)).setCell ⟨gb516, 4, none⟩ (.string t509)).setCell ⟨gb516, 5, none⟩ (.slice Ao33 t510.length co33)).setCell ⟨gb516, 6, none⟩ (.slice Ao34 t513.length co34)) w.heap.size (fun k_ => some k_ ≠ (.slice Ao27 y502.length co27 : Value).ownBlock ∧ k_ ≠ gb464 ∧ k_ ≠ gb501 ∧ k_ ≠ gb516) (.slice Ao34 t513.length co34) t513) := ⟨by (with_reducible repeat (first | apply Kd.V_alloc | apply Kd.V_drewN | apply Kd.V_drew)); exact Kd.V_mono (zgV (Kd.V_mono HO515.out (fun k_ hk => (⟨hk, hk.2⟩ : _ ∧ k_ ≠ gb516)))) (fun _ hk => ⟨hk.1.1.1, ⟨hk.1.1.2.1, ⟨hk.1.1.2.2, hk.1.2⟩⟩⟩)⟩
    have n7_ : Aside0 ((((((((w29.setCell ⟨gb516, 0, none⟩ (.int .i64 t505)).setCell ⟨gb516, 1, none⟩ (.string t506)).setCell ⟨gb516, 2, none⟩ (.int .i64 t507)).setCell ⟨gb516, 3, none⟩ (.int .i64 t508)).setCell ⟨gb516, 4, none⟩ (.string t509)).setCell ⟨gb516, 5, none⟩ (.slice Ao33 t510.length co33)).setCell ⟨gb516, 6, none⟩ (.slice Ao34 t513.length co34)).heap[gb464]? = some (.cells #[.int .i64 t465, .string t466, .int .i64 t467, .int .i64 t468, .string t469, .slice Ao13 t470.length co13, .slice Ao14 t473.length co14] 25 (0, 0))) := ⟨by (with_reducible repeat (first | refine blk_drewN ?_ _ | refine blk_drew ?_ | refine blk_alloc ?_ _)); refine blk_far ?_ NB464_516.out _; refine blk_far ?_ NB464_516.out _; refine blk_far ?_ NB464_516.out _; refine blk_far ?_ NB464_516.out _; refine blk_far ?_ NB464_516.out _; refine blk_far ?_ NB464_516.out _; refine blk_far ?_ NB464_516.out _; (with_reducible repeat (first | refine blk_drewN ?_ _ | refine blk_drew ?_ | refine blk_alloc ?_ _)); exact BK464.out⟩
    have n8_ : Aside0 ((((((((w29.setCell ⟨gb516, 0, none⟩ (.int .i64 t505)).setCell ⟨gb516, 1, none⟩ (.string t506)).setCell ⟨gb516, 2, none⟩ (.int .i64 t507)).setCell ⟨gb516, 3, none⟩ (.int .i64 t508)).setCell ⟨gb516, 4, none⟩ (.string t509)).setCell ⟨gb516, 5, none⟩ (.slice Ao33 t510.length co33)).setCell ⟨gb516, 6, none⟩ (.slice Ao34 t513.length co34)).heap[gb501]? = some (.cells #[.int .i64 t490, .string t491, .int .i64 t492, .int .i64 t493, .string t494, .slice Ao21 t495.length co21, .slice Ao22 t498.length co22] 25 (0, 0))) := ⟨by (with_reducible repeat (first | refine blk_drewN ?_ _ | refine blk_drew ?_ | refine blk_alloc ?_ _)); refine blk_far ?_ NB501_516.out _; refine blk_far ?_ NB501_516.out _; refine blk_far ?_ NB501_516.out _; refine blk_far ?_ NB501_516.out _; refine blk_far ?_ NB501_516.out _; refine blk_far ?_ NB501_516.out _; refine blk_far ?_ NB501_516.out _; (with_reducible repeat (first | refine blk_drewN ?_ _ | refine blk_drew ?_ | refine blk_alloc ?_ _)); exact BK501.out⟩
    have n9_ : Aside0 ((((((((w29.setCell ⟨gb516, 0, none⟩ (.int .i64 t505)).setCell ⟨gb516, 1, none⟩ (.string t506)).setCell ⟨gb516, 2, none⟩ (.int .i64 t507)).setCell ⟨gb516, 3, none⟩ (.int .i64 t508)).setCell ⟨gb516, 4, none⟩ (.string t509)).setCell ⟨gb516, 5, none⟩ (.slice Ao33 t510.length co33)).setCell ⟨gb516, 6, none⟩ (.slice Ao34 t513.length co34)).heap[gb516]? = some (.cells #[.int .i64 t505, .string t506, .int .i64 t507, .int .i64 t508, .string t509, .slice Ao33 t510.length co33, .slice Ao34 t513.length co34] 25 (0, 0))) := ⟨by (with_reducible repeat (first | refine blk_drewN ?_ _ | refine blk_drew ?_ | refine blk_alloc ?_ _)); apply puts_7; (with_reducible repeat (first | refine blk_drewN ?_ _ | refine blk_drew ?_ | refine blk_alloc ?_ _)); exact BK516.out⟩
    have n10_ : Aside0 (Below w.heap.size w (((((((w29.setCell ⟨gb516, 0, none⟩ (.int .i64 t505)).setCell ⟨gb516, 1, none⟩ (.string t506)).setCell ⟨gb516, 2, none⟩ (.int .i64 t507)).setCell ⟨gb516, 3, none⟩ (.int .i64 t508)).setCell ⟨gb516, 4, none⟩ (.string t509)).setCell ⟨gb516, 5, none⟩ (.slice Ao33 t510.length co33)).setCell ⟨gb516, 6, none⟩ (.slice Ao34 t513.length co34))) := ⟨mZ⟩
    (try clear HO472)
    (try clear HO475)
    (try clear HO497)
    (try clear HO500)
    (try clear HO504)
    (try clear HO512)
    (try clear HO515)
    (try clear BK464)
    (try clear BK501)
    (try clear BK516)
    (try clear HB)
    generalize (((((((w29.setCell ⟨gb516, 0, none⟩ (.int .i64 t505)).setCell ⟨gb516, 1, none⟩ (.string t506)).setCell ⟨gb516, 2, none⟩ (.int .i64 t507)).setCell ⟨gb516, 3, none⟩ (.int .i64 t508)).setCell ⟨gb516, 4, none⟩ (.string t509)).setCell ⟨gb516, 5, none⟩ (.slice Ao33 t510.length co33)).setCell ⟨gb516, 6, none⟩ (.slice Ao34 t513.length co34)) = w46 at n0_ n1_ n2_ n3_ n4_ n5_ n6_ n7_ n8_ n9_ n10_ ⊢
    have HO472 := n0_
    have HO475 := n1_
    have HO497 := n2_
    have HO500 := n3_
    have HO504 := n4_
    have HO512 := n5_
    have HO515 := n6_
    have BK464 := n7_
    have BK501 := n8_
    have BK516 := n9_
    have HB := n10_
    clear n0_ n1_ n2_ n3_ n4_ n5_ n6_ n7_ n8_ n9_ n10_
    replace HO472 := zM (Kd.V_drew HO472.out)
    replace HO475 := zM (Kd.V_drew HO475.out)
    replace HO497 := zM (Kd.V_drew HO497.out)
    replace HO500 := zM (Kd.V_drew HO500.out)
    replace HO504 := zM (Kd.N_drew HO504.out)
    replace HO512 := zM (Kd.V_drew HO512.out)
    replace HO515 := zM (Kd.V_drew HO515.out)
    replace BK464 := zM (blk_drew BK464.out)
    replace BK501 := zM (blk_drew BK501.out)
    replace BK516 := zM (blk_drew BK516.out)
    replace HB := zM (below_drew1 HB.out)
    refine start_ (n := 10) (S := fun w' => w'.cell? ⟨gb501, 0, none⟩ = some (.int .i64 t490) ∧ w'.cell? ⟨gb501, 1, none⟩ = some (.string t491) ∧ w'.cell? ⟨gb501, 2, none⟩ = some (.int .i64 t492) ∧ w'.cell? ⟨gb501, 3, none⟩ = some (.int .i64 t493) ∧ w'.cell? ⟨gb501, 4, none⟩ = some (.string t494) ∧ w'.cell? ⟨gb501, 5, none⟩ = some (.slice Ao21 t495.length co21) ∧ w'.cell? ⟨gb501, 6, none⟩ = some (.slice Ao22 t498.length co22)) (ds := []) #[false, false, false, false, false, false, false, false, false, false] (by kernel_rfl) rfl rfl (zJ7 BK501) (fun hHeld => ?_); refine with_tabW columbariumlaw13_PredNormal.tab6 columbariumlaw13_PredNormal.bits6 (fun HT_ HW_ => ?_)
    generalize w46.drew = w47 at HO472 HO475 HO497 HO500 HO504 HO512 HO515 BK464 BK501 BK516 HB hHeld ⊢
    refine take_ (i := 0) (N := some 28) (v := ?_) (a' := ?_) #[true, false, false, false, false, false, false, false, false, false] rfl rfl (take_ofW HT_.out HW_.out (by kernel_rfl)) (fun _ _ _ h => h) (Or.inl ⟨by rfl, ?_⟩) hHeld ?_ ?_
    rotate_left
    ·rintro w' ⟨s0, s1, s2, s3, s4, s5, s6⟩
     go_simp
     with_reducible rfl
    rotate_left
    ·simp only [Act.put, List.setIfInBounds_toArray, List.set_cons_zero, List.set_cons_succ, i64_w, i32_w]
     rfl
    refine take_ (i := 2) (N := some 30) (v := ?_) (a' := ?_) #[true, false, true, false, false, false, false, false, false, false] rfl rfl (take_ofW HT_.out HW_.out (by kernel_rfl)) (fun _ _ _ h => h) (Or.inl ⟨by rfl, ?_⟩) hHeld ?_ ?_
    rotate_left
    ·rintro w' ⟨s0, s1, s2, s3, s4, s5, s6⟩
     go_simp
     with_reducible rfl
    rotate_left
    ·simp only [Act.put, List.setIfInBounds_toArray, List.set_cons_zero, List.set_cons_succ, i64_w, i32_w]
     rfl
    refine one_ (i := 1) (N := some 29) #[true, true, true, false, false, false, false, false, false, false] rfl rfl (one_of HT_.out (by kernel_rfl)) (by decide) (fun K hK => ?_)
    refine goes_ Try.func10 (by kernel_rfl) rfl #[.agg #[.int .i64 t490, .string t491, .int .i64 t492, .int .i64 t493, .string t494, .slice Ao21 t495.length co21, .slice Ao22 t498.length co22]] (by rfl) rfl rfl yb ?_
    with_reducible refine (pred_Normal.calls k t490 t491 t492 t493 t494 _ _ t495 _ _ t498 t517 t518 t519 t520 t521 t522 t525 _ ?side1 ?side2 ?side3 ?side4 A35.out).mono ?_
    (case side1 => exact zC ((Kd.V_reads' HO497.out).2.2))
    (case side2 => exact (Kd.V_reads' HO497.out).2.1)
    (case side3 => exact zC ((Kd.V_reads' HO500.out).2.2))
    (case side4 => exact (Kd.V_reads' HO500.out).2.1)
    rintro e w48 ⟨v523, v526, rfl, ho0, ho1, hb⟩
    refine ⟨_, rfl, ?_⟩
    replace HO472 := zV HO472 hb
    replace HO475 := zV HO475 hb
    replace HO497 := zV HO497 hb
    replace HO500 := zV HO500 hb
    replace HO512 := zV HO512 hb
    replace HO515 := zV HO515 hb
    have HO524 := zM (Kd.V_lower (Kd.V_mono (ok' := fun k_ => some k_ ≠ (.slice Ao27 y502.length co27 : Value).ownBlock ∧ k_ ≠ gb464 ∧ k_ ≠ gb501 ∧ k_ ≠ gb516) ho0 (fun k_ hk_ => ⟨(Kd.fresh' (Kd.N_lt (mN HO504.out)) k_ hk_), (Kd.freshB (mK BK464.out) k_ hk_), (Kd.freshB (mK BK501.out) k_ hk_), (Kd.freshB (mK BK516.out) k_ hk_)⟩)) (below_size mZ))
    have HO527 := zM (Kd.V_lower (Kd.V_mono (ok' := fun k_ => some k_ ≠ (.slice Ao27 y502.length co27 : Value).ownBlock ∧ k_ ≠ gb464 ∧ k_ ≠ gb501 ∧ k_ ≠ gb516) ho1 (fun k_ hk_ => ⟨(Kd.fresh' (Kd.N_lt (mN HO504.out)) k_ hk_), (Kd.freshB (mK BK464.out) k_ hk_), (Kd.freshB (mK BK501.out) k_ hk_), (Kd.freshB (mK BK516.out) k_ hk_)⟩)) (below_size mZ))
    replace HO504 := zN HO504 hb
    replace BK464 := zK BK464 hb
    replace BK501 := zK BK501 hb
    replace BK516 := zK BK516 hb
    replace HB := zM (below_step mZ hb)
    (try clear hb)
    (try clear hb2)
    (try clear hk)
    (try clear hi)
    (try clear ho0)
    (try clear ho1)
    obtain ⟨Ao49, co49, eo49⟩ := Kd.V_slice HO524.out
    (first | subst eo49 | (injection eo49 with f1_ f2_ f3_; have f4_ := f1_.symm; have f5_ := f3_.symm; clear f1_ f2_ f3_; subst f4_; subst f5_))
    obtain ⟨Ao50, co50, eo50⟩ := Kd.V_slice HO527.out
    (first | subst eo50 | (injection eo50 with f1_ f2_ f3_; have f4_ := f1_.symm; have f5_ := f3_.symm; clear f1_ f2_ f3_; subst f4_; subst f5_))
    refine hK.out _ _ (zJ7 BK501) (fun hHeld => ?_)
    clear hK K
    refine norm_ (a' := ?_) ?_ ?_
    rotate_left
    ·show Act.put _ (some 29) _ = _
     simp only [Act.put, List.setIfInBounds_toArray, List.set_cons_zero, List.set_cons_succ, i64_w, i32_w]
     rfl
    refine one_ (i := 3) (N := some 31) #[true, true, true, true, false, false, false, false, false, false] rfl rfl (one_of HT_.out (by kernel_rfl)) (by decide) (fun K hK => ?_)
    refine goes_ Try.func9 (by kernel_rfl) rfl #[.agg #[.int .i64 t517, .string t518, .int .i64 t519, .int .i64 t520, .string t521, .slice Ao49 t522.length co49, .slice Ao50 t525.length co50], .agg #[.int .i64 t490, .string t491, .int .i64 t492, .int .i64 t493, .string t494, .slice Ao21 t495.length co21, .slice Ao22 t498.length co22]] (by rfl) rfl rfl yb ?_
    with_reducible refine (columbariumkeep_Pred.calls k t517 t518 t519 t520 t521 _ _ t522 _ _ t525 t490 t491 t492 t493 t494 _ _ t495 _ _ t498 false _ ?side1 ?side2 ?side3 ?side4 ?side5 ?side6 ?side7 ?side8 A36.out).mono ?_
    (case side1 => exact zC ((Kd.V_reads' HO524.out).2.2))
    (case side2 => exact (Kd.V_reads' HO524.out).2.1)
    (case side3 => exact zC ((Kd.V_reads' HO527.out).2.2))
    (case side4 => exact (Kd.V_reads' HO527.out).2.1)
    (case side5 => exact zC ((Kd.V_reads' HO497.out).2.2))
    (case side6 => exact (Kd.V_reads' HO497.out).2.1)
    (case side7 => exact zC ((Kd.V_reads' HO500.out).2.2))
    (case side8 => exact (Kd.V_reads' HO500.out).2.1)
    rintro e w51 ⟨rfl, hb⟩
    refine ⟨_, rfl, ?_⟩
    replace HO472 := zV HO472 hb
    replace HO475 := zV HO475 hb
    replace HO497 := zV HO497 hb
    replace HO500 := zV HO500 hb
    replace HO504 := zN HO504 hb
    replace HO512 := zV HO512 hb
    replace HO515 := zV HO515 hb
    replace HO524 := zV HO524 hb
    replace HO527 := zV HO527 hb
    replace BK464 := zK BK464 hb
    replace BK501 := zK BK501 hb
    replace BK516 := zK BK516 hb
    replace HB := zM (below_step mZ hb)
    (try clear hb)
    (try clear hb2)
    (try clear hk)
    (try clear hi)
    refine hK.out _ _ (zJ7 BK501) (fun hHeld => ?_)
    clear hK K
    refine norm_ (a' := ?_) ?_ ?_
    rotate_left
    ·show Act.put _ (some 31) _ = _
     simp only [Act.put, List.setIfInBounds_toArray, List.set_cons_zero, List.set_cons_succ, i64_w, i32_w]
     rfl
    refine pure_ (i := 4) (N := some 32) (v := ?_) (a' := ?_) #[true, true, true, true, true, false, false, false, false, false] rfl rfl (any_of HT_.out (by kernel_rfl)) (fun _ _ _ h => h) (Or.inl ⟨by rfl, ?_⟩) ?_ ?_
    rotate_left
    ·intro w'
     go_simp
     with_reducible rfl
    rotate_left
    ·simp only [Act.put, List.setIfInBounds_toArray, List.set_cons_zero, List.set_cons_succ, i64_w, i32_w]
     rfl
    refine pure_ (i := 5) (N := some 33) (v := ?_) (a' := ?_) #[true, true, true, true, true, true, false, false, false, false] rfl rfl (any_of HT_.out (by kernel_rfl)) (fun _ _ _ h => h) (Or.inl ⟨by rfl, ?_⟩) ?_ ?_
    rotate_left
    ·intro w'
     go_simp
     with_reducible rfl
    rotate_left
    ·simp only [Act.put, List.setIfInBounds_toArray, List.set_cons_zero, List.set_cons_succ, i64_w, i32_w]
     rfl
    refine pure_ (i := 6) (N := some 34) (v := undef) (a' := ?_) #[true, true, true, true, true, true, true, false, false, false] rfl rfl (any_of HT_.out (by kernel_rfl)) (fun _ _ _ h => h) (Or.inr ⟨by rfl, rfl⟩) ?_ ?_
    rotate_left
    ·simp only [Act.put, List.setIfInBounds_toArray, List.set_cons_zero, List.set_cons_succ, i64_w, i32_w]
     rfl
    refine pure_ (i := 7) (N := some 35) (v := undef) (a' := ?_) #[true, true, true, true, true, true, true, true, false, false] rfl rfl (any_of HT_.out (by kernel_rfl)) (fun _ _ _ h => h) (Or.inr ⟨by rfl, rfl⟩) ?_ ?_
    rotate_left
    ·simp only [Act.put, List.setIfInBounds_toArray, List.set_cons_zero, List.set_cons_succ, i64_w, i32_w]
     rfl
    refine pure_ (i := 8) (N := some 36) (v := undef) (a' := ?_) #[true, true, true, true, true, true, true, true, true, false] rfl rfl (any_of HT_.out (by kernel_rfl)) (fun _ _ _ h => h) (Or.inr ⟨by rfl, rfl⟩) ?_ ?_
    rotate_left
    ·simp only [Act.put, List.setIfInBounds_toArray, List.set_cons_zero, List.set_cons_succ, i64_w, i32_w]
     rfl
    refine pure_ (i := 9) (N := some 37) (v := ?_) (a' := ?_) #[true, true, true, true, true, true, true, true, true, true] rfl rfl (any_of HT_.out (by kernel_rfl)) (fun _ _ _ h => h) (Or.inl ⟨by rfl, ?_⟩) ?_ ?_
    rotate_left
    ·intro w'
     go_simp
     with_reducible rfl
    rotate_left
    ·simp only [Act.put, List.setIfInBounds_toArray, List.set_cons_zero, List.set_cons_succ, i64_w, i32_w]
     rfl
    refine done_ (done_of HT_.out (by kernel_rfl)) ?_
    try go_wp2
    go_meet
    case rel => exact ⟨_, (true), ya, H', ⟨by first | omega | exact Nat.le_refl _⟩, ⟨yV HO472 (fun _ hk => ⟨hk.2.2.1, ⟨hk.2.2.2.1, hk.2.2.2.2⟩⟩)⟩, ⟨yV HO475 (fun _ hk => ⟨hk.2.2.1, ⟨hk.2.2.2.1, hk.2.2.2.2⟩⟩)⟩, ⟨yV HO497 (fun _ hk => ⟨hk.2.2.2.1, ⟨hk.2.2.2.2.1, hk.2.2.2.2.2⟩⟩)⟩, ⟨yV HO500 (fun _ hk => ⟨hk.2.2.2.1, ⟨hk.2.2.2.2.1, hk.2.2.2.2.2⟩⟩)⟩, ⟨yV HO512 (fun _ hk => ⟨hk.2.1, ⟨hk.2.2.1, hk.2.2.2⟩⟩)⟩, ⟨yV HO515 (fun _ hk => ⟨hk.2.1, ⟨hk.2.2.1, hk.2.2.2⟩⟩)⟩, ⟨mK BK464.out⟩, ⟨mK BK501.out⟩, ⟨mK BK516.out⟩, ⟨mZ⟩⟩
  case rest =>
   clear HC8
   try clear c1
   try clear c37
   obtain ⟨kq, x37_7, rfl, HA, HJ7, HO_465005, HO_465006, HO_502005, HO_502006, HO_517005, HO_517006, BK464, BK501, BK516, HB⟩ := hcut
   cases kq with
   | zero => exact absurd HA.out (by simp [columbariumlaw13_PredNormal.j0])
   | succ kj7 =>
    have H := HA.out
    clear HA
    simp only [columbariumlaw13_PredNormal.j0] at H
    by_cases c52 : x37_7 = true
    ·subst c52
     have H1 : (some false) = some r := by rw [if_pos rfl] at H; exact H
     clear H
     have H := H1
     clear H1
     exact absurd ((Option.some.inj H).trans hrt_.out) (by decide)
    ·replace c52 := Bool.eq_false_iff.mpr c52
     subst c52
     have H1 : ((pred_Right.f kj7 3 (⟨#[]⟩ : ByteArray) 0 0 (⟨#[]⟩ : ByteArray) ([] : List ByteArray) (([(⟨t465, t466, t467, t468, t469, t470, t473⟩ : S25)] : List (S25)))).bind fun t533 => ((columbariumkeep_Short.f kj7 l1 10).bind fun t534 => (columbariumlaw13_PredNormal.l0 kj7 t534 t533 0 t465 t466 t467 t468 t469 t470 t473 t490 t491 t492 t493 t494 t495 t498 t505 t506 t507 t508 t509 t510 t513))) = some r := by rw [if_neg (show ¬ (false = true) by decide)] at H; exact H
     clear H
     have H := H1
     clear H1
     obtain ⟨y530, hy530⟩ : ∃ y_ : List (S25), y_ = (([(⟨t465, t466, t467, t468, t469, t470, t473⟩ : S25)] : List (S25))) := ⟨_, rfl⟩
     replace H : ((pred_Right.f kj7 3 (⟨#[]⟩ : ByteArray) 0 0 (⟨#[]⟩ : ByteArray) ([] : List ByteArray) y530).bind fun t533 => ((columbariumkeep_Short.f kj7 l1 10).bind fun t534 => (columbariumlaw13_PredNormal.l0 kj7 t534 t533 0 t465 t466 t467 t468 t469 t470 t473 t490 t491 t492 t493 t494 t495 t498 t505 t506 t507 t508 t509 t510 t513))) = some r := by first | (rw [hy530]; with_reducible exact H) | (have H2_ := (Option.bind_some _ _).symm.trans H; rw [hy530]; with_reducible exact H2_) | (have H2_ := (Option.bind_some _ _).symm.trans H; with_reducible exact H2_) | with_reducible exact H | (rw [hy530]; exact H) | exact H
     have Ny530 := zM hy530
     clear hy530
     replace H := Option.bind_eq_some_iff.mp H
     obtain ⟨t533, A530, H⟩ := H
     replace H : ((columbariumkeep_Short.f kj7 l1 10).bind fun t534 => (columbariumlaw13_PredNormal.l0 kj7 t534 t533 0 t465 t466 t467 t468 t469 t470 t473 t490 t491 t492 t493 t494 t495 t498 t505 t506 t507 t508 t509 t510 t513)) = some r := H
     have A53 := zM A530
     clear A530
     replace H := Option.bind_eq_some_iff.mp H
     obtain ⟨t534, A540, H⟩ := H
     replace H : (columbariumlaw13_PredNormal.l0 kj7 t534 t533 0 t465 t466 t467 t468 t469 t470 t473 t490 t491 t492 t493 t494 t495 t498 t505 t506 t507 t508 t509 t510 t513) = some r := H
     have A54 := zM A540
     clear A540
     have H' := Aside0.mk H
     clear H
     have hnb55 := NB464_501.out
     have hnc55 := NB501_464.out
     have hnb56 := NB464_516.out
     have hnc56 := NB516_464.out
     obtain ⟨hcz57_0, hcz57_1, hcz57_2, hcz57_3, hcz57_4, hcz57_5, hcz57_6, hfz57_0, hfz57_1, hfz57_2, hfz57_3, hfz57_4, hfz57_5, hfz57_6⟩ := cells_7 BK464.out
     go_wp2_with (first | ((with_reducible refine gate_dst (N := 39) rfl ?_); refine Kd.N_lit k25 _ 25 ?hg (N' := 39) ?hd (xs := ([(⟨t465, t466, t467, t468, t469, t470, t473⟩ : S25)] : List (S25))) (inner := [.int .i64 t465, .string t466, .int .i64 t467, .int .i64 t468, .string t469, .slice Ao13 t470.length co13, .slice Ao14 t473.length co14]) (ok := (fun k_ => k_ ≠ gb464 ∧ k_ ≠ gb501 ∧ k_ ≠ gb516)) (okp := (fun k_ => k_ ≠ gb464 ∧ k_ ≠ gb501 ∧ k_ ≠ gb516)) ?hr ?hp (fun _ hk => hk) ((show ∀ k_, wc.heap.size ≤ k_ → (fun k_ => k_ ≠ gb464 ∧ k_ ≠ gb501 ∧ k_ ≠ gb516) k_ from fun k_ hk => ⟨Kd.freshB (mK BK464.out) k_ hk, Kd.freshB (mK BK501.out) k_ hk, Kd.freshB (mK BK516.out) k_ hk⟩) _ (Nat.le_refl _)) (Below.refl _ _) (Nat.le_refl _) (by simp) ?_; (case hd => rfl); (case hg => rfl); (case hr => first | (go_simp; done) | (go_simp; rfl)); (case hp => exact (Reps.c7 (show Kd.FK k25 _ _ (⟨t465, t466, t467, t468, t469, t470, t473⟩ : S25) [.int .i64 t465, .string t466, .int .i64 t467, .int .i64 t468, .string t469, .slice Ao13 t470.length co13, .slice Ao14 t473.length co14] from (k25_mkF _ _ (⟨t465, t466, t467, t468, t469, t470, t473⟩ : S25) (Kd.V_reads' (Kd.V_mono (ok' := (fun k_ => k_ ≠ gb464 ∧ k_ ≠ gb501 ∧ k_ ≠ gb516)) (HO_465005.out) (fun k_ hk => ⟨hk.1, ⟨hk.2.1, hk.2.2⟩⟩))).2.1 (Kd.V_F (by (with_reducible repeat (first | apply Kd.V_alloc | apply Kd.V_drewN | apply Kd.V_drew)); exact (Kd.V_mono (ok' := (fun k_ => k_ ≠ gb464 ∧ k_ ≠ gb501 ∧ k_ ≠ gb516)) (HO_465005.out) (fun k_ hk => ⟨hk.1, ⟨hk.2.1, hk.2.2⟩⟩)))) (Kd.V_reads' (Kd.V_mono (ok' := (fun k_ => k_ ≠ gb464 ∧ k_ ≠ gb501 ∧ k_ ≠ gb516)) (HO_465006.out) (fun k_ hk => ⟨hk.1, ⟨hk.2.1, hk.2.2⟩⟩))).2.1 (Kd.V_F (by (with_reducible repeat (first | apply Kd.V_alloc | apply Kd.V_drewN | apply Kd.V_drew)); exact (Kd.V_mono (ok' := (fun k_ => k_ ≠ gb464 ∧ k_ ≠ gb501 ∧ k_ ≠ gb516)) (HO_465006.out) (fun k_ hk => ⟨hk.1, ⟨hk.2.1, hk.2.2⟩⟩)))))) (Reps.none _ _))); intro v531 w58 ho59 hb hg_ hnew_; clear hg_ hnew_; (first | rw [← Ny530.out] at ho59 | (simp only [Int.reduceToNat] at ho59; rw [← Ny530.out] at ho59)); replace HO_465005 := zM (Kd.V_elder' (mV HO_465005.out) (by first | exact Kd.N_base ho59 | exact Kd.N_base (Kd.R_N ho59)) hb); replace HO_465006 := zM (Kd.V_elder' (mV HO_465006.out) (by first | exact Kd.N_base ho59 | exact Kd.N_base (Kd.R_N ho59)) hb); replace HO_502005 := zM (Kd.V_elder' (mV HO_502005.out) (by first | exact Kd.N_base ho59 | exact Kd.N_base (Kd.R_N ho59)) hb); replace HO_502006 := zM (Kd.V_elder' (mV HO_502006.out) (by first | exact Kd.N_base ho59 | exact Kd.N_base (Kd.R_N ho59)) hb); replace HO_517005 := zM (Kd.V_elder' (mV HO_517005.out) (by first | exact Kd.N_base ho59 | exact Kd.N_base (Kd.R_N ho59)) hb); replace HO_517006 := zM (Kd.V_elder' (mV HO_517006.out) (by first | exact Kd.N_base ho59 | exact Kd.N_base (Kd.R_N ho59)) hb); have HO532 := zM (Kd.N_lower ho59 (below_size mZ)); replace BK464 := zK BK464 hb; replace BK501 := zK BK501 hb; replace BK516 := zK BK516 hb; replace HB := zM (below_step mZ hb); clear hb ho59; obtain ⟨Ao60, co60, eo60⟩ := Kd.N_slice HO532.out; subst eo60) | ((with_reducible refine gate_callee (f := 8) rfl ?_); refine goesL_ (some 41) rfl rfl Try.func8 (by kernel_rfl) rfl #[.agg #[.int .i64 3, .string (⟨#[]⟩ : ByteArray), .int .i64 0, .int .i64 0, .string (⟨#[]⟩ : ByteArray), .slice none 0 0, .slice Ao60 y530.length co60]] rfl yb ?_; (refine (pred_Right.calls kj7 3 (⟨#[]⟩ : ByteArray) 0 0 (⟨#[]⟩ : ByteArray) _ _ ([] : List ByteArray) _ _ y530 t533 _ ?side1 ?side2 ?side3 ?side4 A53.out).mono ?_); (case side1 => exact Kd.C_nil _ _); (case side2 => exact Nat.le_refl _); (case side3 => exact zC ((Kd.N_reads' HO532.out).2.2)); (case side4 => exact (Kd.N_reads' HO532.out).2.1); rintro e w61 ⟨rfl, hb⟩; refine ⟨_, rfl, ?_⟩; replace HO_465005 := zV HO_465005 hb; replace HO_465006 := zV HO_465006 hb; replace HO_502005 := zV HO_502005 hb; replace HO_502006 := zV HO_502006 hb; replace HO_517005 := zV HO_517005 hb; replace HO_517006 := zV HO_517006 hb; replace HO532 := zN HO532 hb; replace BK464 := zK BK464 hb; replace BK501 := zK BK501 hb; replace BK516 := zK BK516 hb; replace HB := zM (below_step mZ hb); (try clear hb)) | ((with_reducible refine gate_callee (f := 13) rfl ?_); refine goesL_ (some 43) rfl rfl Try.func13 (by kernel_rfl) rfl #[.slice A1 l1.length c1, .int .i64 10] rfl yb ?_; (with_reducible refine (columbariumkeep_Short.calls kj7 _ _ l1 10 t534 _ ?side1 ?side2 A54.out).mono ?_); (case side1 => exact zC (Kd.C_below HR1.out HB.out)); (case side2 => first | exact HC1.out | exact Kd.V_mono HC1.out (fun k_ hk_ => by grind)); rintro e w62 ⟨v535, rfl, ho0, hb⟩; refine ⟨_, rfl, ?_⟩; replace HO_465005 := zM (Kd.V_elder' (mV HO_465005.out) (Kd.N_base (Kd.S_N ho0)) hb); replace HO_465006 := zM (Kd.V_elder' (mV HO_465006.out) (Kd.N_base (Kd.S_N ho0)) hb); replace HO_502005 := zM (Kd.V_elder' (mV HO_502005.out) (Kd.N_base (Kd.S_N ho0)) hb); replace HO_502006 := zM (Kd.V_elder' (mV HO_502006.out) (Kd.N_base (Kd.S_N ho0)) hb); replace HO_517005 := zM (Kd.V_elder' (mV HO_517005.out) (Kd.N_base (Kd.S_N ho0)) hb); replace HO_517006 := zM (Kd.V_elder' (mV HO_517006.out) (Kd.N_base (Kd.S_N ho0)) hb); have HO536 := zM (Kd.N_lower (Kd.N_mono (ok' := fun k_ => some k_ ≠ (.slice Ao60 y530.length co60 : Value).ownBlock ∧ k_ ≠ gb464 ∧ k_ ≠ gb501 ∧ k_ ≠ gb516) (Kd.S_N (Kd.S_bound ho0)) (fun k_ hk_ => ⟨(Kd.fresh' (Kd.N_lt (mN HO532.out)) k_ hk_.2.1), (Kd.freshB (mK BK464.out) k_ hk_.2.1), (Kd.freshB (mK BK501.out) k_ hk_.2.1), (Kd.freshB (mK BK516.out) k_ hk_.2.1)⟩)) (below_size mZ)); replace HO532 := zM (Kd.N_elder' (mN HO532.out) (Kd.N_base (Kd.S_N ho0)) hb); replace BK464 := zK BK464 hb; replace BK501 := zK BK501 hb; replace BK516 := zK BK516 hb; replace HB := zM (below_step mZ hb); (try clear hb); (try clear ho0)))
     try simp only [Act.put, List.setIfInBounds_toArray, List.set_cons_zero, List.set_cons_succ]
     go_loopg [8] kj7 (fun kq v8 w' => ∃ (x8_2 : Int), v8 = .int .i64 x8_2 ∧ Aside0 (columbariumlaw13_PredNormal.l0 kq t534 t533 x8_2 t465 t466 t467 t468 t469 t470 t473 t490 t491 t492 t493 t494 t495 t498 t505 t506 t507 t508 t509 t510 t513 = some r) ∧ Aside0 (kq ≤ kj7) ∧ Aside0 (Kd.N k36 36 w' w.heap.size (fun k_ => k_ ≠ gb464 ∧ k_ ≠ gb501 ∧ k_ ≠ gb516) v535 t534) ∧ Aside0 (Kd.V Kd.string 9 w' w.heap.size (fun k_ => some k_ ≠ (v535 : Value).ownBlock ∧ k_ ≠ gb464 ∧ k_ ≠ gb501 ∧ k_ ≠ gb516) (.slice Ao13 t470.length co13) t470) ∧ Aside0 (Kd.V k25 25 w' w.heap.size (fun k_ => some k_ ≠ (v535 : Value).ownBlock ∧ k_ ≠ gb464 ∧ k_ ≠ gb501 ∧ k_ ≠ gb516) (.slice Ao14 t473.length co14) t473) ∧ Aside0 (Kd.V Kd.string 9 w' w.heap.size (fun k_ => some k_ ≠ (v535 : Value).ownBlock ∧ k_ ≠ gb464 ∧ k_ ≠ gb501 ∧ k_ ≠ gb516) (.slice Ao21 t495.length co21) t495) ∧ Aside0 (Kd.V k25 25 w' w.heap.size (fun k_ => some k_ ≠ (v535 : Value).ownBlock ∧ k_ ≠ gb464 ∧ k_ ≠ gb501 ∧ k_ ≠ gb516) (.slice Ao22 t498.length co22) t498) ∧ Aside0 (Kd.V Kd.string 9 w' w.heap.size (fun k_ => some k_ ≠ (v535 : Value).ownBlock ∧ k_ ≠ gb464 ∧ k_ ≠ gb501 ∧ k_ ≠ gb516) (.slice Ao33 t510.length co33) t510) ∧ Aside0 (Kd.V k25 25 w' w.heap.size (fun k_ => some k_ ≠ (v535 : Value).ownBlock ∧ k_ ≠ gb464 ∧ k_ ≠ gb501 ∧ k_ ≠ gb516) (.slice Ao34 t513.length co34) t513) ∧ Aside0 (w'.heap[gb464]? = some (.cells #[.int .i64 t465, .string t466, .int .i64 t467, .int .i64 t468, .string t469, (.slice Ao13 t470.length co13), (.slice Ao14 t473.length co14)] 25 (0, 0))) ∧ Aside0 (w'.heap[gb501]? = some (.cells #[.int .i64 t490, .string t491, .int .i64 t492, .int .i64 t493, .string t494, (.slice Ao21 t495.length co21), (.slice Ao22 t498.length co22)] 25 (0, 0))) ∧ Aside0 (w'.heap[gb516]? = some (.cells #[.int .i64 t505, .string t506, .int .i64 t507, .int .i64 t508, .string t509, (.slice Ao33 t510.length co33), (.slice Ao34 t513.length co34)] 25 (0, 0))) ∧ Aside0 (Below w.heap.size w w'))
     case atStart => exact ⟨(0), ya, H', ⟨Nat.le_refl _⟩, ⟨yN HO536 (fun _ hk => ⟨hk.2.1, ⟨hk.2.2.1, hk.2.2.2⟩⟩)⟩, ⟨yV HO_465005 (fun _ hk => ⟨hk.2, ⟨hk.1.1.1, ⟨hk.1.1.2.1, hk.1.1.2.2⟩⟩⟩)⟩, ⟨yV HO_465006 (fun _ hk => ⟨hk.2, ⟨hk.1.1.1, ⟨hk.1.1.2.1, hk.1.1.2.2⟩⟩⟩)⟩, ⟨yV HO_502005 (fun _ hk => ⟨hk.2, ⟨hk.1.1.1, ⟨hk.1.1.2.1, hk.1.1.2.2⟩⟩⟩)⟩, ⟨yV HO_502006 (fun _ hk => ⟨hk.2, ⟨hk.1.1.1, ⟨hk.1.1.2.1, hk.1.1.2.2⟩⟩⟩)⟩, ⟨yV HO_517005 (fun _ hk => ⟨hk.2, ⟨hk.1.1.1, ⟨hk.1.1.2.1, hk.1.1.2.2⟩⟩⟩)⟩, ⟨yV HO_517006 (fun _ hk => ⟨hk.2, ⟨hk.1.1.1, ⟨hk.1.1.2.1, hk.1.1.2.2⟩⟩⟩)⟩, ⟨mK BK464.out⟩, ⟨mK BK501.out⟩, ⟨mK BK516.out⟩, ⟨mZ⟩⟩
     case round =>
      clear H'
      try clear c1
      try clear c5
      try clear c7
      try clear c37
      try clear c52
      try clear hcz57_0
      try clear hcz57_1
      try clear hcz57_2
      try clear hcz57_3
      try clear hcz57_4
      try clear hcz57_5
      try clear hcz57_6
      try clear hfz57_0
      try clear hfz57_1
      try clear hfz57_2
      try clear hfz57_3
      try clear hfz57_4
      try clear hfz57_5
      try clear hfz57_6
      try clear BK464
      try clear BK501
      try clear BK516
      obtain ⟨x8_2, rfl, HA, HK2, HO_1, HO_465005, HO_465006, HO_502005, HO_502006, HO_517005, HO_517006, BK464, BK501, BK516, HB⟩ := hrel
      cases gk with
      | zero => exact absurd HA.out (by simp [columbariumlaw13_PredNormal.l0])
      | succ k2 =>
       have H := HA.out
       clear HA
       simp only [columbariumlaw13_PredNormal.l0] at H
       by_cases c63 : x8_2 < (t534.length : Int)
       ·rw [if_pos c63] at H
        have c63b0 : decide (x8_2 < (t534.length : Int)) = true := decide_eq_true c63
        clear c63
        by_cases c64 : 0 ≤ x8_2
        ·rw [if_pos c64] at H
         have c64b0 : decide (0 ≤ x8_2) = true := decide_eq_true c64
         clear c64
         replace H := Option.bind_eq_some_iff.mp H
         obtain ⟨⟨t539, t540, t541⟩, A650, H⟩ := H
         replace H : ((pred_Eval.f k2 t465 t466 t467 t468 t469 t470 t473 t539 t540 t541).bind fun t545 => ((pred_Eval.f k2 t490 t491 t492 t493 t494 t495 t498 t539 t540 t541).bind fun t546 => (if (t545 != t546) = true then (some false) else ((pred_Eval.f k2 t465 t466 t467 t468 t469 t470 t473 t539 t540 t541).bind fun t547 => ((pred_Eval.f k2 t505 t506 t507 t508 t509 t510 t513 t539 t540 t541).bind fun t548 => (if (t547 == t548) = true then (some false) else (if t533 = true then ((columbariumlaw13_flat.f k2 t505 t506 t507 t508 t509 t510 t513 0).bind fun t549 => (if t549 = true then (columbariumlaw13_PredNormal.l0 k2 t534 t533 (wrap64 (x8_2 + 1)) t465 t466 t467 t468 t469 t470 t473 t490 t491 t492 t493 t494 t495 t498 t505 t506 t507 t508 t509 t510 t513) else (some false))) else (columbariumlaw13_PredNormal.l0 k2 t534 t533 (wrap64 (x8_2 + 1)) t465 t466 t467 t468 t469 t470 t473 t490 t491 t492 t493 t494 t495 t498 t505 t506 t507 t508 t509 t510 t513)))))))) = some r := H
         have A65 := zM A650
         clear A650
         replace H := Option.bind_eq_some_iff.mp H
         obtain ⟨t545, A660, H⟩ := H
         replace H : ((pred_Eval.f k2 t490 t491 t492 t493 t494 t495 t498 t539 t540 t541).bind fun t546 => (if (t545 != t546) = true then (some false) else ((pred_Eval.f k2 t465 t466 t467 t468 t469 t470 t473 t539 t540 t541).bind fun t547 => ((pred_Eval.f k2 t505 t506 t507 t508 t509 t510 t513 t539 t540 t541).bind fun t548 => (if (t547 == t548) = true then (some false) else (if t533 = true then ((columbariumlaw13_flat.f k2 t505 t506 t507 t508 t509 t510 t513 0).bind fun t549 => (if t549 = true then (columbariumlaw13_PredNormal.l0 k2 t534 t533 (wrap64 (x8_2 + 1)) t465 t466 t467 t468 t469 t470 t473 t490 t491 t492 t493 t494 t495 t498 t505 t506 t507 t508 t509 t510 t513) else (some false))) else (columbariumlaw13_PredNormal.l0 k2 t534 t533 (wrap64 (x8_2 + 1)) t465 t466 t467 t468 t469 t470 t473 t490 t491 t492 t493 t494 t495 t498 t505 t506 t507 t508 t509 t510 t513))))))) = some r := H
         have A66 := zM A660
         clear A660
         replace H := Option.bind_eq_some_iff.mp H
         obtain ⟨t546, A670, H⟩ := H
         replace H : (if (t545 != t546) = true then (some false) else ((pred_Eval.f k2 t465 t466 t467 t468 t469 t470 t473 t539 t540 t541).bind fun t547 => ((pred_Eval.f k2 t505 t506 t507 t508 t509 t510 t513 t539 t540 t541).bind fun t548 => (if (t547 == t548) = true then (some false) else (if t533 = true then ((columbariumlaw13_flat.f k2 t505 t506 t507 t508 t509 t510 t513 0).bind fun t549 => (if t549 = true then (columbariumlaw13_PredNormal.l0 k2 t534 t533 (wrap64 (x8_2 + 1)) t465 t466 t467 t468 t469 t470 t473 t490 t491 t492 t493 t494 t495 t498 t505 t506 t507 t508 t509 t510 t513) else (some false))) else (columbariumlaw13_PredNormal.l0 k2 t534 t533 (wrap64 (x8_2 + 1)) t465 t466 t467 t468 t469 t470 t473 t490 t491 t492 t493 t494 t495 t498 t505 t506 t507 t508 t509 t510 t513)))))) = some r := H
         have A67 := zM A670
         clear A670
         by_cases c68 : (t545 != t546) = true
         ·rw [if_pos c68] at H
          have c68b0 : (t545 != t546) = true := c68
          (try (have c68b1 : decide (t545 = t546) = false := by simpa using c68))
          (try (have c68b2 : (t545 == t546) = false := by simpa using c68))
          (try (have c68b3 : ¬ (t545 = t546) := by simpa using c68))
          clear c68
          exact absurd ((Option.some.inj H).trans hrt_.out) (by decide)
         ·rw [if_neg c68] at H
          have c68b0 : (t545 != t546) = false := by simpa using c68
          (try (have c68b1 : decide (t545 = t546) = true := by simpa using c68))
          (try (have c68b2 : (t545 == t546) = true := by simpa using c68))
          clear c68
          replace H := Option.bind_eq_some_iff.mp H
          obtain ⟨t547, A690, H⟩ := H
          replace H : ((pred_Eval.f k2 t505 t506 t507 t508 t509 t510 t513 t539 t540 t541).bind fun t548 => (if (t547 == t548) = true then (some false) else (if t533 = true then ((columbariumlaw13_flat.f k2 t505 t506 t507 t508 t509 t510 t513 0).bind fun t549 => (if t549 = true then (columbariumlaw13_PredNormal.l0 k2 t534 t533 (wrap64 (x8_2 + 1)) t465 t466 t467 t468 t469 t470 t473 t490 t491 t492 t493 t494 t495 t498 t505 t506 t507 t508 t509 t510 t513) else (some false))) else (columbariumlaw13_PredNormal.l0 k2 t534 t533 (wrap64 (x8_2 + 1)) t465 t466 t467 t468 t469 t470 t473 t490 t491 t492 t493 t494 t495 t498 t505 t506 t507 t508 t509 t510 t513)))) = some r := H
          have A69 := zM A690
          clear A690
          replace H := Option.bind_eq_some_iff.mp H
          obtain ⟨t548, A700, H⟩ := H
          replace H : (if (t547 == t548) = true then (some false) else (if t533 = true then ((columbariumlaw13_flat.f k2 t505 t506 t507 t508 t509 t510 t513 0).bind fun t549 => (if t549 = true then (columbariumlaw13_PredNormal.l0 k2 t534 t533 (wrap64 (x8_2 + 1)) t465 t466 t467 t468 t469 t470 t473 t490 t491 t492 t493 t494 t495 t498 t505 t506 t507 t508 t509 t510 t513) else (some false))) else (columbariumlaw13_PredNormal.l0 k2 t534 t533 (wrap64 (x8_2 + 1)) t465 t466 t467 t468 t469 t470 t473 t490 t491 t492 t493 t494 t495 t498 t505 t506 t507 t508 t509 t510 t513))) = some r := H
          have A70 := zM A700
          clear A700
          by_cases c71 : (t547 == t548) = true
          ·rw [if_pos c71] at H
           have c71b0 : (t547 == t548) = true := c71
           (try (have c71b1 : decide (t547 = t548) = true := by simpa using c71))
           (try (have c71b2 : (t547 == t548) = true := by simpa using c71))
           clear c71
           exact absurd ((Option.some.inj H).trans hrt_.out) (by decide)
          ·rw [if_neg c71] at H
           have c71b0 : (t547 == t548) = false := by simpa using c71
           (try (have c71b1 : decide (t547 = t548) = false := by simpa using c71))
           (try (have c71b2 : (t547 == t548) = false := by simpa using c71))
           (try (have c71b3 : ¬ (t547 = t548) := by simpa using c71))
           clear c71
           by_cases c72 : t533 = true
           ·subst c72
            have H1 : ((columbariumlaw13_flat.f k2 t505 t506 t507 t508 t509 t510 t513 0).bind fun t549 => (if t549 = true then (columbariumlaw13_PredNormal.l0 k2 t534 true (wrap64 (x8_2 + 1)) t465 t466 t467 t468 t469 t470 t473 t490 t491 t492 t493 t494 t495 t498 t505 t506 t507 t508 t509 t510 t513) else (some false))) = some r := by rw [if_pos rfl] at H; exact H
            clear H
            have H := H1
            clear H1
            replace H := Option.bind_eq_some_iff.mp H
            obtain ⟨t549, A730, H⟩ := H
            replace H : (if t549 = true then (columbariumlaw13_PredNormal.l0 k2 t534 true (wrap64 (x8_2 + 1)) t465 t466 t467 t468 t469 t470 t473 t490 t491 t492 t493 t494 t495 t498 t505 t506 t507 t508 t509 t510 t513) else (some false)) = some r := H
            have A73 := zM A730
            clear A730
            by_cases c74 : t549 = true
            ·subst c74
             have H1 : (columbariumlaw13_PredNormal.l0 k2 t534 true (wrap64 (x8_2 + 1)) t465 t466 t467 t468 t469 t470 t473 t490 t491 t492 t493 t494 t495 t498 t505 t506 t507 t508 t509 t510 t513) = some r := by rw [if_pos rfl] at H; exact H
             clear H
             have H := H1
             clear H1
             have H' := Aside0.mk H
             clear H
             obtain ⟨Ao75, co75, eo75⟩ := Kd.N_slice HO_1.out
             subst eo75
             have p538 : 0 ≤ (x8_2 : Int) := zA
             have q538 : x8_2 < (t534.length : Int) := zA
             obtain ⟨ad538, A538_2, c538_2, e538, hx538_0, hx538_1, hx538_2, hl538_2, hi538_2⟩ := at_T36 (Kd.N_reads' HO_1.out).2.2 x8_2 p538 q538
             cases e538
             obtain ⟨ce538, hce538, hMe538, hcc538⟩ := Kd.N_get HO_1.out z36 x8_2 p538 (by first | exact q538 | exact zA | (have e_ := (Kd.N_reads' HO_1.out).1; omega))
             obtain ⟨ua538_2, uc538_2, rfl, ul538_2, ge538_2⟩ := k36_openF hMe538
             have hv538_2 := hcc538 2 _ rfl
             rw [add_field _ _ 2 (by omega)] at hv538_2
             replace hv538_2 := Option.some.inj (hv538_2.symm.trans hx538_2)
             injection hv538_2 with hva_ hvn_ hvc_
             rw [hva_] at ge538_2
             rw [hvc_] at ul538_2
             have HL538_2 := zM (show Kd.V k52 52 _ w.heap.size _ _ ((rd_T36 t534 x8_2).f2) from Kd.V_mk ul538_2 ge538_2)
             clear hva_ hvn_ hvc_ ge538_2 ul538_2
             clear hcc538 hce538
             have HR538_2 := zM hi538_2
             have HC538_2 := zM hl538_2
             clear hi538_2 hl538_2
             replace p538 := eq_true p538
             replace q538 := eq_true q538
             try go_wp2_with (first | ((with_reducible refine gate_callee (f := 14) rfl ?_); refine goesL_ (some 55) rfl rfl Try.func14 (by kernel_rfl) rfl #[.agg #[.int .i64 ((rd_T36 t534 x8_2).f0), .int .i64 ((rd_T36 t534 x8_2).f1), .slice A538_2 ((rd_T36 t534 x8_2).f2).length c538_2], .int .i64 x8_2] rfl yb ?_; (with_reducible refine (columbariumkeep_Tame.calls k2 ((rd_T36 t534 x8_2).f0) ((rd_T36 t534 x8_2).f1) _ _ ((rd_T36 t534 x8_2).f2) x8_2 t539 t540 t541 _ ?side1 ?side2 A65.out).mono ?_); (case side1 => repeat (first | exact (by repeat (first | (with_reducible exact HR538_2.out) | (with_reducible refine Kd.C_alloc ?_ _) | (with_reducible refine Kd.C_drewN ?_ _) | (with_reducible refine Kd.C_drew ?_) | exact HR538_2.out)) | (with_reducible refine Kd.C_alloc ?_ _) | (with_reducible refine Kd.C_drewN ?_ _) | (with_reducible refine Kd.C_drew ?_))); (case side2 => first | exact HC538_2.out | exact Kd.V_mono HC538_2.out (fun k_ hk_ => by grind)); rintro e w76 ⟨v542, rfl, ho0, hb⟩; refine ⟨_, rfl, ?_⟩; replace HO_1 := zM (Kd.N_elder' (mN HO_1.out) (Kd.R_base ho0) hb); replace HO_465005 := zM (Kd.V_elder' (mV HO_465005.out) (Kd.R_base ho0) hb); replace HO_465006 := zM (Kd.V_elder' (mV HO_465006.out) (Kd.R_base ho0) hb); replace HO_502005 := zM (Kd.V_elder' (mV HO_502005.out) (Kd.R_base ho0) hb); replace HO_502006 := zM (Kd.V_elder' (mV HO_502006.out) (Kd.R_base ho0) hb); replace HO_517005 := zM (Kd.V_elder' (mV HO_517005.out) (Kd.R_base ho0) hb); replace HO_517006 := zM (Kd.V_elder' (mV HO_517006.out) (Kd.R_base ho0) hb); replace HL538_2 := zM (Kd.V_elder' (mV HL538_2.out) (Kd.R_base ho0) hb); have HO543 := zM (Kd.R_lower ho0 (below_size mZ)); replace BK464 := zK BK464 hb; replace BK501 := zK BK501 hb; replace BK516 := zK BK516 hb; replace HR538_2 := zM (Kd.C_below (by repeat (first | (with_reducible exact HR538_2.out) | (with_reducible refine Kd.C_alloc ?_ _) | (with_reducible refine Kd.C_drewN ?_ _) | (with_reducible refine Kd.C_drew ?_) | exact HR538_2.out)) hb); replace HB := zM (below_step mZ hb); (try clear hb); (try clear ho0)) | ((with_reducible refine gate_dst (N := 9) rfl ?_); refine box_event ?hg (N := 9) ?hd (cs := #[.int .i64 0, .int .i64 0, .slice none 0 0]) (t := 36) ?hr ?_; (case hd => rfl); (case hg => rfl); (case hr => first | (go_simp; done) | (go_simp; rfl)); intro gb544 hg w77 hbox hb; replace HO_1 := zM (Kd.N_below (Kd.N_elderB (mN HO_1.out) gb544 (Nat.le_of_eq hg.symm)) hb); replace HO_465005 := zM (Kd.V_below (Kd.V_elderB (mV HO_465005.out) gb544 (Nat.le_of_eq hg.symm)) hb); replace HO_465006 := zM (Kd.V_below (Kd.V_elderB (mV HO_465006.out) gb544 (Nat.le_of_eq hg.symm)) hb); replace HO_502005 := zM (Kd.V_below (Kd.V_elderB (mV HO_502005.out) gb544 (Nat.le_of_eq hg.symm)) hb); replace HO_502006 := zM (Kd.V_below (Kd.V_elderB (mV HO_502006.out) gb544 (Nat.le_of_eq hg.symm)) hb); replace HO_517005 := zM (Kd.V_below (Kd.V_elderB (mV HO_517005.out) gb544 (Nat.le_of_eq hg.symm)) hb); replace HO_517006 := zM (Kd.V_below (Kd.V_elderB (mV HO_517006.out) gb544 (Nat.le_of_eq hg.symm)) hb); replace HL538_2 := zM (Kd.V_below (Kd.V_elderB (mV HL538_2.out) gb544 (Nat.le_of_eq hg.symm)) hb); replace HO543 := zR HO543 hb; replace HR538_2 := zM (Kd.C_below (by repeat (first | (with_reducible exact HR538_2.out) | (with_reducible refine Kd.C_alloc ?_ _) | (with_reducible refine Kd.C_drewN ?_ _) | (with_reducible refine Kd.C_drew ?_) | exact HR538_2.out)) hb); have BK544 := zM (hbox); have GW544 := zM ((by rw [hg]; exact (below_size mZ) : w.heap.size ≤ gb544)); replace HB := zM (below_step mZ hb); have GE544 := GW544; have NB464_544 := zL BK464 hg; have NB544_464 := zG BK464 hg; replace BK464 := zK BK464 hb; have NB501_544 := zL BK501 hg; have NB544_501 := zG BK501 hg; replace BK501 := zK BK501 hb; have NB516_544 := zL BK516 hg; have NB544_516 := zG BK516 hg; replace BK516 := zK BK516 hb; clear hb hbox hg; have hnb78 := NB544_464.out; have hnc78 := NB464_544.out; have hnb79 := NB544_501.out; have hnc79 := NB501_544.out; have hnb80 := NB544_516.out; have hnc80 := NB516_544.out; obtain ⟨hcz81_0, hcz81_1, hcz81_2, hfz81_0, hfz81_1, hfz81_2⟩ := cells_3 BK544.out; obtain ⟨Ao82, co82, eo82⟩ := Kd.R_slice HO543.out; subst eo82))
             have n0_ : Aside0 (Kd.N k36 36 (((w77.setCell ⟨gb544, 0, none⟩ (.int .i64 t539)).setCell ⟨gb544, 1, none⟩ (.int .i64 t540)).setCell ⟨gb544, 2, none⟩ (.slice Ao82 t541.length co82)) w.heap.size (fun k_ => some k_ ≠ (.slice Ao82 t541.length co82 : Value).ownBlock ∧ k_ ≠ gb464 ∧ k_ ≠ gb501 ∧ k_ ≠ gb516 ∧ k_ ≠ gb544) (.slice (some ad538) t534.length co75) t534) := ⟨by (with_reducible repeat (first | apply Kd.N_alloc | apply Kd.N_drewN | apply Kd.N_drew)); exact Kd.N_mono (zgN (Kd.N_mono HO_1.out (fun k_ hk => (⟨hk, hk.2⟩ : _ ∧ k_ ≠ gb544)))) (fun _ hk => ⟨hk.1.1.2, ⟨hk.1.1.1.1, ⟨hk.1.1.1.2.1, ⟨hk.1.1.1.2.2, hk.1.2⟩⟩⟩⟩)⟩
             have n1_ : Aside0 (Kd.V Kd.string 9 (((w77.setCell ⟨gb544, 0, none⟩ (.int .i64 t539)).setCell ⟨gb544, 1, none⟩ (.int .i64 t540)).setCell ⟨gb544, 2, none⟩ (.slice Ao82 t541.length co82)) w.heap.size (fun k_ => some k_ ≠ (.slice (some ad538) t534.length co75 : Value).ownBlock ∧ some k_ ≠ (.slice Ao82 t541.length co82 : Value).ownBlock ∧ k_ ≠ gb464 ∧ k_ ≠ gb501 ∧ k_ ≠ gb516 ∧ k_ ≠ gb544) (.slice Ao13 t470.length co13) t470) := ⟨by (with_reducible repeat (first | apply Kd.V_alloc | apply Kd.V_drewN | apply Kd.V_drew)); exact Kd.V_mono (zgV (Kd.V_mono HO_465005.out (fun k_ hk => (⟨hk, hk.2⟩ : _ ∧ k_ ≠ gb544)))) (fun _ hk => ⟨hk.1.1.1.1, ⟨hk.1.1.2, ⟨hk.1.1.1.2.1, ⟨hk.1.1.1.2.2.1, ⟨hk.1.1.1.2.2.2, hk.1.2⟩⟩⟩⟩⟩)⟩
             have n2_ : Aside0 (Kd.V k25 25 (((w77.setCell ⟨gb544, 0, none⟩ (.int .i64 t539)).setCell ⟨gb544, 1, none⟩ (.int .i64 t540)).setCell ⟨gb544, 2, none⟩ (.slice Ao82 t541.length co82)) w.heap.size (fun k_ => some k_ ≠ (.slice (some ad538) t534.length co75 : Value).ownBlock ∧ some k_ ≠ (.slice Ao82 t541.length co82 : Value).ownBlock ∧ k_ ≠ gb464 ∧ k_ ≠ gb501 ∧ k_ ≠ gb516 ∧ k_ ≠ gb544) (.slice Ao14 t473.length co14) t473) := ⟨by (with_reducible repeat (first | apply Kd.V_alloc | apply Kd.V_drewN | apply Kd.V_drew)); exact Kd.V_mono (zgV (Kd.V_mono HO_465006.out (fun k_ hk => (⟨hk, hk.2⟩ : _ ∧ k_ ≠ gb544)))) (fun _ hk => ⟨hk.1.1.1.1, ⟨hk.1.1.2, ⟨hk.1.1.1.2.1, ⟨hk.1.1.1.2.2.1, ⟨hk.1.1.1.2.2.2, hk.1.2⟩⟩⟩⟩⟩)⟩
             have n3_ : Aside0 (Kd.V Kd.string 9 (((w77.setCell ⟨gb544, 0, none⟩ (.int .i64 t539)).setCell ⟨gb544, 1, none⟩ (.int .i64 t540)).setCell ⟨gb544, 2, none⟩ (.slice Ao82 t541.length co82)) w.heap.size (fun k_ => some k_ ≠ (.slice (some ad538) t534.length co75 : Value).ownBlock ∧ some k_ ≠ (.slice Ao82 t541.length co82 : Value).ownBlock ∧ k_ ≠ gb464 ∧ k_ ≠ gb501 ∧ k_ ≠ gb516 ∧ k_ ≠ gb544) (.slice Ao21 t495.length co21) t495) := ⟨by (with_reducible repeat (first | apply Kd.V_alloc | apply Kd.V_drewN | apply Kd.V_drew)); exact Kd.V_mono (zgV (Kd.V_mono HO_502005.out (fun k_ hk => (⟨hk, hk.2⟩ : _ ∧ k_ ≠ gb544)))) (fun _ hk => ⟨hk.1.1.1.1, ⟨hk.1.1.2, ⟨hk.1.1.1.2.1, ⟨hk.1.1.1.2.2.1, ⟨hk.1.1.1.2.2.2, hk.1.2⟩⟩⟩⟩⟩)⟩
             have n4_ : Aside0 (Kd.V k25 25 (((w77.setCell ⟨gb544, 0, none⟩ (.int .i64 t539)).setCell ⟨gb544, 1, none⟩ (.int .i64 t540)).setCell ⟨gb544, 2, none⟩ (.slice Ao82 t541.length co82)) w.heap.size (fun k_ => some k_ ≠ (.slice (some ad538) t534.length co75 : Value).ownBlock ∧ some k_ ≠ (.slice Ao82 t541.length co82 : Value).ownBlock ∧ k_ ≠ gb464 ∧ k_ ≠ gb501 ∧ k_ ≠ gb516 ∧ k_ ≠ gb544) (.slice Ao22 t498.length co22) t498) := ⟨by (with_reducible repeat (first | apply Kd.V_alloc | apply Kd.V_drewN | apply Kd.V_drew)); exact Kd.V_mono (zgV (Kd.V_mono HO_502006.out (fun k_ hk => (⟨hk, hk.2⟩ : _ ∧ k_ ≠ gb544)))) (fun _ hk => ⟨hk.1.1.1.1, ⟨hk.1.1.2, ⟨hk.1.1.1.2.1, ⟨hk.1.1.1.2.2.1, ⟨hk.1.1.1.2.2.2, hk.1.2⟩⟩⟩⟩⟩)⟩
             have n5_ : Aside0 (Kd.V Kd.string 9 (((w77.setCell ⟨gb544, 0, none⟩ (.int .i64 t539)).setCell ⟨gb544, 1, none⟩ (.int .i64 t540)).setCell ⟨gb544, 2, none⟩ (.slice Ao82 t541.length co82)) w.heap.size (fun k_ => some k_ ≠ (.slice (some ad538) t534.length co75 : Value).ownBlock ∧ some k_ ≠ (.slice Ao82 t541.length co82 : Value).ownBlock ∧ k_ ≠ gb464 ∧ k_ ≠ gb501 ∧ k_ ≠ gb516 ∧ k_ ≠ gb544) (.slice Ao33 t510.length co33) t510) := ⟨by (with_reducible repeat (first | apply Kd.V_alloc | apply Kd.V_drewN | apply Kd.V_drew)); exact Kd.V_mono (zgV (Kd.V_mono HO_517005.out (fun k_ hk => (⟨hk, hk.2⟩ : _ ∧ k_ ≠ gb544)))) (fun _ hk => ⟨hk.1.1.1.1, ⟨hk.1.1.2, ⟨hk.1.1.1.2.1, ⟨hk.1.1.1.2.2.1, ⟨hk.1.1.1.2.2.2, hk.1.2⟩⟩⟩⟩⟩)⟩
             have n6_ : Aside0 (Kd.V k25 25 (((w77.setCell ⟨gb544, 0, none⟩ (.int .i64 t539)).setCell ⟨gb544, 1, none⟩ (.int .i64 t540)).setCell ⟨gb544, 2, none⟩ (.slice Ao82 t541.length co82)) w.heap.size (fun k_ => some k_ ≠ (.slice (some ad538) t534.length co75 : Value).ownBlock ∧ some k_ ≠ (.slice Ao82 t541.length co82 : Value).ownBlock ∧ k_ ≠ gb464 ∧ k_ ≠ gb501 ∧ k_ ≠ gb516 ∧ k_ ≠ gb544) (.slice Ao34 t513.length co34) t513) := ⟨by (with_reducible repeat (first | apply Kd.V_alloc | apply Kd.V_drewN | apply Kd.V_drew)); exact Kd.V_mono (zgV (Kd.V_mono HO_517006.out (fun k_ hk => (⟨hk, hk.2⟩ : _ ∧ k_ ≠ gb544)))) (fun _ hk => ⟨hk.1.1.1.1, ⟨hk.1.1.2, ⟨hk.1.1.1.2.1, ⟨hk.1.1.1.2.2.1, ⟨hk.1.1.1.2.2.2, hk.1.2⟩⟩⟩⟩⟩)⟩
             have n7_ : Aside0 (Kd.V k52 52 (((w77.setCell ⟨gb544, 0, none⟩ (.int .i64 t539)).setCell ⟨gb544, 1, none⟩ (.int .i64 t540)).setCell ⟨gb544, 2, none⟩ (.slice Ao82 t541.length co82)) w.heap.size (fun k_ => some k_ ≠ (.slice (some ad538) t534.length co75 : Value).ownBlock ∧ some k_ ≠ (.slice Ao82 t541.length co82 : Value).ownBlock ∧ k_ ≠ gb464 ∧ k_ ≠ gb501 ∧ k_ ≠ gb516 ∧ k_ ≠ gb544) (.slice A538_2 ((rd_T36 t534 x8_2).f2).length c538_2) ((rd_T36 t534 x8_2).f2)) := ⟨by (with_reducible repeat (first | apply Kd.V_alloc | apply Kd.V_drewN | apply Kd.V_drew)); exact Kd.V_mono (zgV (Kd.V_mono HL538_2.out (fun k_ hk => (⟨hk, hk.2⟩ : _ ∧ k_ ≠ gb544)))) (fun _ hk => ⟨hk.1.1.1.2, ⟨hk.1.1.2, ⟨hk.1.1.1.1.1, ⟨hk.1.1.1.1.2.1, ⟨hk.1.1.1.1.2.2, hk.1.2⟩⟩⟩⟩⟩)⟩
             have n8_ : Aside0 (Kd.R k52 52 (((w77.setCell ⟨gb544, 0, none⟩ (.int .i64 t539)).setCell ⟨gb544, 1, none⟩ (.int .i64 t540)).setCell ⟨gb544, 2, none⟩ (.slice Ao82 t541.length co82)) w.heap.size (fun _ => True) (.slice Ao82 t541.length co82) t541) := ⟨by (with_reducible repeat (first | apply Kd.R_alloc | apply Kd.R_drewN | apply Kd.R_drew)); exact Kd.R_mono (zgR (Kd.R_types HO543.out BK544.out (by decide))) (fun _ hk => trivial)⟩
             have n9_ : Aside0 ((((w77.setCell ⟨gb544, 0, none⟩ (.int .i64 t539)).setCell ⟨gb544, 1, none⟩ (.int .i64 t540)).setCell ⟨gb544, 2, none⟩ (.slice Ao82 t541.length co82)).heap[gb464]? = some (.cells #[.int .i64 t465, .string t466, .int .i64 t467, .int .i64 t468, .string t469, .slice Ao13 t470.length co13, .slice Ao14 t473.length co14] 25 (0, 0))) := ⟨by (with_reducible repeat (first | refine blk_drewN ?_ _ | refine blk_drew ?_ | refine blk_alloc ?_ _)); refine blk_far ?_ NB464_544.out _; refine blk_far ?_ NB464_544.out _; refine blk_far ?_ NB464_544.out _; (with_reducible repeat (first | refine blk_drewN ?_ _ | refine blk_drew ?_ | refine blk_alloc ?_ _)); exact BK464.out⟩
             have n10_ : Aside0 ((((w77.setCell ⟨gb544, 0, none⟩ (.int .i64 t539)).setCell ⟨gb544, 1, none⟩ (.int .i64 t540)).setCell ⟨gb544, 2, none⟩ (.slice Ao82 t541.length co82)).heap[gb501]? = some (.cells #[.int .i64 t490, .string t491, .int .i64 t492, .int .i64 t493, .string t494, .slice Ao21 t495.length co21, .slice Ao22 t498.length co22] 25 (0, 0))) := ⟨by (with_reducible repeat (first | refine blk_drewN ?_ _ | refine blk_drew ?_ | refine blk_alloc ?_ _)); refine blk_far ?_ NB501_544.out _; refine blk_far ?_ NB501_544.out _; refine blk_far ?_ NB501_544.out _; (with_reducible repeat (first | refine blk_drewN ?_ _ | refine blk_drew ?_ | refine blk_alloc ?_ _)); exact BK501.out⟩
             have n11_ : Aside0 ((((w77.setCell ⟨gb544, 0, none⟩ (.int .i64 t539)).setCell ⟨gb544, 1, none⟩ (.int .i64 t540)).setCell ⟨gb544, 2, none⟩ (.slice Ao82 t541.length co82)).heap[gb516]? = some (.cells #[.int .i64 t505, .string t506, .int .i64 t507, .int .i64 t508, .string t509, .slice Ao33 t510.length co33, .slice Ao34 t513.length co34] 25 (0, 0))) := ⟨by (with_reducible repeat (first | refine blk_drewN ?_ _ | refine blk_drew ?_ | refine blk_alloc ?_ _)); refine blk_far ?_ NB516_544.out _; refine blk_far ?_ NB516_544.out _; refine blk_far ?_ NB516_544.out _; (with_reducible repeat (first | refine blk_drewN ?_ _ | refine blk_drew ?_ | refine blk_alloc ?_ _)); exact BK516.out⟩
             have n12_ : Aside0 ((((w77.setCell ⟨gb544, 0, none⟩ (.int .i64 t539)).setCell ⟨gb544, 1, none⟩ (.int .i64 t540)).setCell ⟨gb544, 2, none⟩ (.slice Ao82 t541.length co82)).heap[gb544]? = some (.cells #[.int .i64 t539, .int .i64 t540, .slice Ao82 t541.length co82] 36 (0, 0))) := ⟨by (with_reducible repeat (first | refine blk_drewN ?_ _ | refine blk_drew ?_ | refine blk_alloc ?_ _)); apply puts_3; (with_reducible repeat (first | refine blk_drewN ?_ _ | refine blk_drew ?_ | refine blk_alloc ?_ _)); exact BK544.out⟩
             have n13_ : Aside0 (Below w.heap.size w (((w77.setCell ⟨gb544, 0, none⟩ (.int .i64 t539)).setCell ⟨gb544, 1, none⟩ (.int .i64 t540)).setCell ⟨gb544, 2, none⟩ (.slice Ao82 t541.length co82))) := ⟨mZ⟩
             (try clear HO_1)
             (try clear HO_465005)
             (try clear HO_465006)
             (try clear HO_502005)
             (try clear HO_502006)
             (try clear HO_517005)
             (try clear HO_517006)
             (try clear HL538_2)
             (try clear HO543)
             (try clear BK464)
             (try clear BK501)
             (try clear BK516)
             (try clear BK544)
             (try clear HB)
             generalize (((w77.setCell ⟨gb544, 0, none⟩ (.int .i64 t539)).setCell ⟨gb544, 1, none⟩ (.int .i64 t540)).setCell ⟨gb544, 2, none⟩ (.slice Ao82 t541.length co82)) = w83 at n0_ n1_ n2_ n3_ n4_ n5_ n6_ n7_ n8_ n9_ n10_ n11_ n12_ n13_ ⊢
             have HO_1 := n0_
             have HO_465005 := n1_
             have HO_465006 := n2_
             have HO_502005 := n3_
             have HO_502006 := n4_
             have HO_517005 := n5_
             have HO_517006 := n6_
             have HL538_2 := n7_
             have HO543 := n8_
             have BK464 := n9_
             have BK501 := n10_
             have BK516 := n11_
             have BK544 := n12_
             have HB := n13_
             clear n0_ n1_ n2_ n3_ n4_ n5_ n6_ n7_ n8_ n9_ n10_ n11_ n12_ n13_
             replace HO_1 := zM (Kd.N_drew HO_1.out)
             replace HO_465005 := zM (Kd.V_drew HO_465005.out)
             replace HO_465006 := zM (Kd.V_drew HO_465006.out)
             replace HO_502005 := zM (Kd.V_drew HO_502005.out)
             replace HO_502006 := zM (Kd.V_drew HO_502006.out)
             replace HO_517005 := zM (Kd.V_drew HO_517005.out)
             replace HO_517006 := zM (Kd.V_drew HO_517006.out)
             replace HL538_2 := zM (Kd.V_drew HL538_2.out)
             replace HO543 := zM (Kd.R_drew HO543.out)
             replace BK464 := zM (blk_drew BK464.out)
             replace BK501 := zM (blk_drew BK501.out)
             replace BK516 := zM (blk_drew BK516.out)
             replace BK544 := zM (blk_drew BK544.out)
             replace HB := zM (below_drew1 HB.out)
             refine start_ (n := 24) (S := fun w' => w'.cell? ⟨gb464, 0, none⟩ = some (.int .i64 t465) ∧ w'.cell? ⟨gb464, 1, none⟩ = some (.string t466) ∧ w'.cell? ⟨gb464, 2, none⟩ = some (.int .i64 t467) ∧ w'.cell? ⟨gb464, 3, none⟩ = some (.int .i64 t468) ∧ w'.cell? ⟨gb464, 4, none⟩ = some (.string t469) ∧ w'.cell? ⟨gb464, 5, none⟩ = some (.slice Ao13 t470.length co13) ∧ w'.cell? ⟨gb464, 6, none⟩ = some (.slice Ao14 t473.length co14) ∧ w'.cell? ⟨gb544, 0, none⟩ = some (.int .i64 t539) ∧ w'.cell? ⟨gb544, 1, none⟩ = some (.int .i64 t540) ∧ w'.cell? ⟨gb544, 2, none⟩ = some (.slice Ao82 t541.length co82) ∧ w'.cell? ⟨gb501, 0, none⟩ = some (.int .i64 t490) ∧ w'.cell? ⟨gb501, 1, none⟩ = some (.string t491) ∧ w'.cell? ⟨gb501, 2, none⟩ = some (.int .i64 t492) ∧ w'.cell? ⟨gb501, 3, none⟩ = some (.int .i64 t493) ∧ w'.cell? ⟨gb501, 4, none⟩ = some (.string t494) ∧ w'.cell? ⟨gb501, 5, none⟩ = some (.slice Ao21 t495.length co21) ∧ w'.cell? ⟨gb501, 6, none⟩ = some (.slice Ao22 t498.length co22) ∧ w'.cell? ⟨gb516, 0, none⟩ = some (.int .i64 t505) ∧ w'.cell? ⟨gb516, 1, none⟩ = some (.string t506) ∧ w'.cell? ⟨gb516, 2, none⟩ = some (.int .i64 t507) ∧ w'.cell? ⟨gb516, 3, none⟩ = some (.int .i64 t508) ∧ w'.cell? ⟨gb516, 4, none⟩ = some (.string t509) ∧ w'.cell? ⟨gb516, 5, none⟩ = some (.slice Ao33 t510.length co33) ∧ w'.cell? ⟨gb516, 6, none⟩ = some (.slice Ao34 t513.length co34)) (ds := []) #[false, false, false, false, false, false, false, false, false, false, false, false, false, false, false, false, false, false, false, false, false, false, false, false] (by kernel_rfl) rfl rfl (zI7 BK464 (zI3 BK544 (zI7 BK501 (zJ7 BK516)))) (fun hHeld => ?_); refine with_tabW columbariumlaw13_PredNormal.tab14 columbariumlaw13_PredNormal.bits14 (fun HT_ HW_ => ?_)
             generalize w83.drew = w84 at HO_1 HO_465005 HO_465006 HO_502005 HO_502006 HO_517005 HO_517006 HL538_2 HO543 BK464 BK501 BK516 BK544 HB hHeld ⊢
             refine take_ (i := 0) (N := some 56) (v := ?_) (a' := ?_) #[true, false, false, false, false, false, false, false, false, false, false, false, false, false, false, false, false, false, false, false, false, false, false, false] rfl rfl (take_ofW HT_.out HW_.out (by kernel_rfl)) (fun _ _ _ h => h) (Or.inl ⟨by rfl, ?_⟩) hHeld ?_ ?_
             rotate_left
             ·rintro w' ⟨s0, s1, s2, s3, s4, s5, s6, s7, s8, s9, s10, s11, s12, s13, s14, s15, s16, s17, s18, s19, s20, s21, s22, s23⟩
              go_simp
              with_reducible rfl
             rotate_left
             ·simp only [Act.put, List.setIfInBounds_toArray, List.set_cons_zero, List.set_cons_succ, i64_w, i32_w]
              rfl
             refine take_ (i := 1) (N := some 57) (v := ?_) (a' := ?_) #[true, true, false, false, false, false, false, false, false, false, false, false, false, false, false, false, false, false, false, false, false, false, false, false] rfl rfl (take_ofW HT_.out HW_.out (by kernel_rfl)) (fun _ _ _ h => h) (Or.inl ⟨by rfl, ?_⟩) hHeld ?_ ?_
             rotate_left
             ·rintro w' ⟨s0, s1, s2, s3, s4, s5, s6, s7, s8, s9, s10, s11, s12, s13, s14, s15, s16, s17, s18, s19, s20, s21, s22, s23⟩
              go_simp
              with_reducible rfl
             rotate_left
             ·simp only [Act.put, List.setIfInBounds_toArray, List.set_cons_zero, List.set_cons_succ, i64_w, i32_w]
              rfl
             refine take_ (i := 3) (N := some 59) (v := ?_) (a' := ?_) #[true, true, false, true, false, false, false, false, false, false, false, false, false, false, false, false, false, false, false, false, false, false, false, false] rfl rfl (take_ofW HT_.out HW_.out (by kernel_rfl)) (fun _ _ _ h => h) (Or.inl ⟨by rfl, ?_⟩) hHeld ?_ ?_
             rotate_left
             ·rintro w' ⟨s0, s1, s2, s3, s4, s5, s6, s7, s8, s9, s10, s11, s12, s13, s14, s15, s16, s17, s18, s19, s20, s21, s22, s23⟩
              go_simp
              with_reducible rfl
             rotate_left
             ·simp only [Act.put, List.setIfInBounds_toArray, List.set_cons_zero, List.set_cons_succ, i64_w, i32_w]
              rfl
             refine take_ (i := 4) (N := some 60) (v := ?_) (a' := ?_) #[true, true, false, true, true, false, false, false, false, false, false, false, false, false, false, false, false, false, false, false, false, false, false, false] rfl rfl (take_ofW HT_.out HW_.out (by kernel_rfl)) (fun _ _ _ h => h) (Or.inl ⟨by rfl, ?_⟩) hHeld ?_ ?_
             rotate_left
             ·rintro w' ⟨s0, s1, s2, s3, s4, s5, s6, s7, s8, s9, s10, s11, s12, s13, s14, s15, s16, s17, s18, s19, s20, s21, s22, s23⟩
              go_simp
              with_reducible rfl
             rotate_left
             ·simp only [Act.put, List.setIfInBounds_toArray, List.set_cons_zero, List.set_cons_succ, i64_w, i32_w]
              rfl
             refine one_ (i := 2) (N := some 58) #[true, true, true, true, true, false, false, false, false, false, false, false, false, false, false, false, false, false, false, false, false, false, false, false] rfl rfl (one_of HT_.out (by kernel_rfl)) (by decide) (fun K hK => ?_)
             refine goes_ Try.func15 (by kernel_rfl) rfl #[.agg #[.int .i64 t465, .string t466, .int .i64 t467, .int .i64 t468, .string t469, .slice Ao13 t470.length co13, .slice Ao14 t473.length co14], .agg #[.int .i64 t539, .int .i64 t540, .slice Ao82 t541.length co82]] (by rfl) rfl rfl yb ?_
             with_reducible refine (pred_Eval.calls k2 t465 t466 t467 t468 t469 _ _ t470 _ _ t473 t539 t540 _ _ t541 t545 _ ?side1 ?side2 ?side3 ?side4 ?side5 ?side6 A66.out).mono ?_
             (case side1 => exact zC ((Kd.V_reads' HO_465005.out).2.2))
             (case side2 => exact (Kd.V_reads' HO_465005.out).2.1)
             (case side3 => exact zC ((Kd.V_reads' HO_465006.out).2.2))
             (case side4 => exact (Kd.V_reads' HO_465006.out).2.1)
             (case side5 => exact zC ((Kd.R_reads' HO543.out).2.2))
             (case side6 => exact (Kd.R_reads' HO543.out).2.1)
             rintro e w85 ⟨rfl, hb⟩
             refine ⟨_, rfl, ?_⟩
             replace HO_1 := zN HO_1 hb
             replace HO_465005 := zV HO_465005 hb
             replace HO_465006 := zV HO_465006 hb
             replace HO_502005 := zV HO_502005 hb
             replace HO_502006 := zV HO_502006 hb
             replace HO_517005 := zV HO_517005 hb
             replace HO_517006 := zV HO_517006 hb
             replace HL538_2 := zV HL538_2 hb
             replace HO543 := zR HO543 hb
             replace BK464 := zK BK464 hb
             replace BK501 := zK BK501 hb
             replace BK516 := zK BK516 hb
             replace BK544 := zK BK544 hb
             replace HB := zM (below_step mZ hb)
             (try clear hb)
             (try clear hb2)
             (try clear hk)
             (try clear hi)
             refine hK.out _ _ (zI7 BK464 (zI3 BK544 (zI7 BK501 (zJ7 BK516)))) (fun hHeld => ?_)
             clear hK K
             refine norm_ (a' := ?_) ?_ ?_
             rotate_left
             ·show Act.put _ (some 58) _ = _
              simp only [Act.put, List.setIfInBounds_toArray, List.set_cons_zero, List.set_cons_succ, i64_w, i32_w]
              rfl
             refine one_ (i := 5) (N := some 61) #[true, true, true, true, true, true, false, false, false, false, false, false, false, false, false, false, false, false, false, false, false, false, false, false] rfl rfl (one_of HT_.out (by kernel_rfl)) (by decide) (fun K hK => ?_)
             refine goes_ Try.func15 (by kernel_rfl) rfl #[.agg #[.int .i64 t490, .string t491, .int .i64 t492, .int .i64 t493, .string t494, .slice Ao21 t495.length co21, .slice Ao22 t498.length co22], .agg #[.int .i64 t539, .int .i64 t540, .slice Ao82 t541.length co82]] (by rfl) rfl rfl yb ?_
             with_reducible refine (pred_Eval.calls k2 t490 t491 t492 t493 t494 _ _ t495 _ _ t498 t539 t540 _ _ t541 t546 _ ?side1 ?side2 ?side3 ?side4 ?side5 ?side6 A67.out).mono ?_
             (case side1 => exact zC ((Kd.V_reads' HO_502005.out).2.2))
             (case side2 => exact (Kd.V_reads' HO_502005.out).2.1)
             (case side3 => exact zC ((Kd.V_reads' HO_502006.out).2.2))
             (case side4 => exact (Kd.V_reads' HO_502006.out).2.1)
             (case side5 => exact zC ((Kd.R_reads' HO543.out).2.2))
             (case side6 => exact (Kd.R_reads' HO543.out).2.1)
             rintro e w86 ⟨rfl, hb⟩
             refine ⟨_, rfl, ?_⟩
             replace HO_1 := zN HO_1 hb
             replace HO_465005 := zV HO_465005 hb
             replace HO_465006 := zV HO_465006 hb
             replace HO_502005 := zV HO_502005 hb
             replace HO_502006 := zV HO_502006 hb
             replace HO_517005 := zV HO_517005 hb
             replace HO_517006 := zV HO_517006 hb
             replace HL538_2 := zV HL538_2 hb
             replace HO543 := zR HO543 hb
             replace BK464 := zK BK464 hb
             replace BK501 := zK BK501 hb
             replace BK516 := zK BK516 hb
             replace BK544 := zK BK544 hb
             replace HB := zM (below_step mZ hb)
             (try clear hb)
             (try clear hb2)
             (try clear hk)
             (try clear hi)
             refine hK.out _ _ (zI7 BK464 (zI3 BK544 (zI7 BK501 (zJ7 BK516)))) (fun hHeld => ?_)
             clear hK K
             refine norm_ (a' := ?_) ?_ ?_
             rotate_left
             ·show Act.put _ (some 61) _ = _
              simp only [Act.put, List.setIfInBounds_toArray, List.set_cons_zero, List.set_cons_succ, i64_w, i32_w]
              rfl
             refine pure_ (i := 6) (N := some 62) (v := ?_) (a' := ?_) #[true, true, true, true, true, true, true, false, false, false, false, false, false, false, false, false, false, false, false, false, false, false, false, false] rfl rfl (any_of HT_.out (by kernel_rfl)) (fun _ _ _ h => h) (Or.inl ⟨by rfl, ?_⟩) ?_ ?_
             rotate_left
             ·intro w'
              go_simp
              with_reducible rfl
             rotate_left
             ·simp only [Act.put, List.setIfInBounds_toArray, List.set_cons_zero, List.set_cons_succ, i64_w, i32_w]
              rfl
             refine pure_ (i := 7) (N := some 63) (v := ?_) (a' := ?_) #[true, true, true, true, true, true, true, true, false, false, false, false, false, false, false, false, false, false, false, false, false, false, false, false] rfl rfl (any_of HT_.out (by kernel_rfl)) (fun _ _ _ h => h) (Or.inl ⟨by rfl, ?_⟩) ?_ ?_
             rotate_left
             ·intro w'
              go_simp
              with_reducible rfl
             rotate_left
             ·simp only [Act.put, List.setIfInBounds_toArray, List.set_cons_zero, List.set_cons_succ, i64_w, i32_w]
              rfl
             refine take_ (i := 8) (N := some 64) (v := ?_) (a' := ?_) #[true, true, true, true, true, true, true, true, true, false, false, false, false, false, false, false, false, false, false, false, false, false, false, false] rfl rfl (take_ofW HT_.out HW_.out (by kernel_rfl)) (fun _ _ _ h => h) (Or.inl ⟨by rfl, ?_⟩) hHeld ?_ ?_
             rotate_left
             ·rintro w' ⟨s0, s1, s2, s3, s4, s5, s6, s7, s8, s9, s10, s11, s12, s13, s14, s15, s16, s17, s18, s19, s20, s21, s22, s23⟩
              go_simp
              with_reducible rfl
             rotate_left
             ·simp only [Act.put, List.setIfInBounds_toArray, List.set_cons_zero, List.set_cons_succ, i64_w, i32_w]
              rfl
             refine take_ (i := 9) (N := some 65) (v := ?_) (a' := ?_) #[true, true, true, true, true, true, true, true, true, true, false, false, false, false, false, false, false, false, false, false, false, false, false, false] rfl rfl (take_ofW HT_.out HW_.out (by kernel_rfl)) (fun _ _ _ h => h) (Or.inl ⟨by rfl, ?_⟩) hHeld ?_ ?_
             rotate_left
             ·rintro w' ⟨s0, s1, s2, s3, s4, s5, s6, s7, s8, s9, s10, s11, s12, s13, s14, s15, s16, s17, s18, s19, s20, s21, s22, s23⟩
              go_simp
              with_reducible rfl
             rotate_left
             ·simp only [Act.put, List.setIfInBounds_toArray, List.set_cons_zero, List.set_cons_succ, i64_w, i32_w]
              rfl
             refine take_ (i := 11) (N := some 67) (v := ?_) (a' := ?_) #[true, true, true, true, true, true, true, true, true, true, false, true, false, false, false, false, false, false, false, false, false, false, false, false] rfl rfl (take_ofW HT_.out HW_.out (by kernel_rfl)) (fun _ _ _ h => h) (Or.inl ⟨by rfl, ?_⟩) hHeld ?_ ?_
             rotate_left
             ·rintro w' ⟨s0, s1, s2, s3, s4, s5, s6, s7, s8, s9, s10, s11, s12, s13, s14, s15, s16, s17, s18, s19, s20, s21, s22, s23⟩
              go_simp
              with_reducible rfl
             rotate_left
             ·simp only [Act.put, List.setIfInBounds_toArray, List.set_cons_zero, List.set_cons_succ, i64_w, i32_w]
              rfl
             refine take_ (i := 12) (N := some 68) (v := ?_) (a' := ?_) #[true, true, true, true, true, true, true, true, true, true, false, true, true, false, false, false, false, false, false, false, false, false, false, false] rfl rfl (take_ofW HT_.out HW_.out (by kernel_rfl)) (fun _ _ _ h => h) (Or.inl ⟨by rfl, ?_⟩) hHeld ?_ ?_
             rotate_left
             ·rintro w' ⟨s0, s1, s2, s3, s4, s5, s6, s7, s8, s9, s10, s11, s12, s13, s14, s15, s16, s17, s18, s19, s20, s21, s22, s23⟩
              go_simp
              with_reducible rfl
             rotate_left
             ·simp only [Act.put, List.setIfInBounds_toArray, List.set_cons_zero, List.set_cons_succ, i64_w, i32_w]
              rfl
             refine one_ (i := 10) (N := some 66) #[true, true, true, true, true, true, true, true, true, true, true, true, true, false, false, false, false, false, false, false, false, false, false, false] rfl rfl (one_of HT_.out (by kernel_rfl)) (by decide) (fun K hK => ?_)
             refine goes_ Try.func15 (by kernel_rfl) rfl #[.agg #[.int .i64 t465, .string t466, .int .i64 t467, .int .i64 t468, .string t469, .slice Ao13 t470.length co13, .slice Ao14 t473.length co14], .agg #[.int .i64 t539, .int .i64 t540, .slice Ao82 t541.length co82]] (by rfl) rfl rfl yb ?_
             with_reducible refine (pred_Eval.calls k2 t465 t466 t467 t468 t469 _ _ t470 _ _ t473 t539 t540 _ _ t541 t547 _ ?side1 ?side2 ?side3 ?side4 ?side5 ?side6 A69.out).mono ?_
             (case side1 => exact zC ((Kd.V_reads' HO_465005.out).2.2))
             (case side2 => exact (Kd.V_reads' HO_465005.out).2.1)
             (case side3 => exact zC ((Kd.V_reads' HO_465006.out).2.2))
             (case side4 => exact (Kd.V_reads' HO_465006.out).2.1)
             (case side5 => exact zC ((Kd.R_reads' HO543.out).2.2))
             (case side6 => exact (Kd.R_reads' HO543.out).2.1)
             rintro e w87 ⟨rfl, hb⟩
             refine ⟨_, rfl, ?_⟩
             replace HO_1 := zN HO_1 hb
             replace HO_465005 := zV HO_465005 hb
             replace HO_465006 := zV HO_465006 hb
             replace HO_502005 := zV HO_502005 hb
             replace HO_502006 := zV HO_502006 hb
             replace HO_517005 := zV HO_517005 hb
             replace HO_517006 := zV HO_517006 hb
             replace HL538_2 := zV HL538_2 hb
             replace HO543 := zR HO543 hb
             replace BK464 := zK BK464 hb
             replace BK501 := zK BK501 hb
             replace BK516 := zK BK516 hb
             replace BK544 := zK BK544 hb
             replace HB := zM (below_step mZ hb)
             (try clear hb)
             (try clear hb2)
             (try clear hk)
             (try clear hi)
             refine hK.out _ _ (zI7 BK464 (zI3 BK544 (zI7 BK501 (zJ7 BK516)))) (fun hHeld => ?_)
             clear hK K
             refine norm_ (a' := ?_) ?_ ?_
             rotate_left
             ·show Act.put _ (some 66) _ = _
              simp only [Act.put, List.setIfInBounds_toArray, List.set_cons_zero, List.set_cons_succ, i64_w, i32_w]
              rfl
             refine one_ (i := 13) (N := some 69) #[true, true, true, true, true, true, true, true, true, true, true, true, true, true, false, false, false, false, false, false, false, false, false, false] rfl rfl (one_of HT_.out (by kernel_rfl)) (by decide) (fun K hK => ?_)
             refine goes_ Try.func15 (by kernel_rfl) rfl #[.agg #[.int .i64 t505, .string t506, .int .i64 t507, .int .i64 t508, .string t509, .slice Ao33 t510.length co33, .slice Ao34 t513.length co34], .agg #[.int .i64 t539, .int .i64 t540, .slice Ao82 t541.length co82]] (by rfl) rfl rfl yb ?_
             with_reducible refine (pred_Eval.calls k2 t505 t506 t507 t508 t509 _ _ t510 _ _ t513 t539 t540 _ _ t541 t548 _ ?side1 ?side2 ?side3 ?side4 ?side5 ?side6 A70.out).mono ?_
             (case side1 => exact zC ((Kd.V_reads' HO_517005.out).2.2))
             (case side2 => exact (Kd.V_reads' HO_517005.out).2.1)
             (case side3 => exact zC ((Kd.V_reads' HO_517006.out).2.2))
             (case side4 => exact (Kd.V_reads' HO_517006.out).2.1)
             (case side5 => exact zC ((Kd.R_reads' HO543.out).2.2))
             (case side6 => exact (Kd.R_reads' HO543.out).2.1)
             rintro e w88 ⟨rfl, hb⟩
             refine ⟨_, rfl, ?_⟩
             replace HO_1 := zN HO_1 hb
             replace HO_465005 := zV HO_465005 hb
             replace HO_465006 := zV HO_465006 hb
             replace HO_502005 := zV HO_502005 hb
             replace HO_502006 := zV HO_502006 hb
             replace HO_517005 := zV HO_517005 hb
             replace HO_517006 := zV HO_517006 hb
             replace HL538_2 := zV HL538_2 hb
             replace HO543 := zR HO543 hb
             replace BK464 := zK BK464 hb
             replace BK501 := zK BK501 hb
             replace BK516 := zK BK516 hb
             replace BK544 := zK BK544 hb
             replace HB := zM (below_step mZ hb)
             (try clear hb)
             (try clear hb2)
             (try clear hk)
             (try clear hi)
             refine hK.out _ _ (zI7 BK464 (zI3 BK544 (zI7 BK501 (zJ7 BK516)))) (fun hHeld => ?_)
             clear hK K
             refine norm_ (a' := ?_) ?_ ?_
             rotate_left
             ·show Act.put _ (some 69) _ = _
              simp only [Act.put, List.setIfInBounds_toArray, List.set_cons_zero, List.set_cons_succ, i64_w, i32_w]
              rfl
             refine pure_ (i := 14) (N := some 70) (v := ?_) (a' := ?_) #[true, true, true, true, true, true, true, true, true, true, true, true, true, true, true, false, false, false, false, false, false, false, false, false] rfl rfl (any_of HT_.out (by kernel_rfl)) (fun _ _ _ h => h) (Or.inl ⟨by rfl, ?_⟩) ?_ ?_
             rotate_left
             ·intro w'
              go_simp
              with_reducible rfl
             rotate_left
             ·simp only [Act.put, List.setIfInBounds_toArray, List.set_cons_zero, List.set_cons_succ, i64_w, i32_w]
              rfl
             refine pure_ (i := 15) (N := some 71) (v := ?_) (a' := ?_) #[true, true, true, true, true, true, true, true, true, true, true, true, true, true, true, true, false, false, false, false, false, false, false, false] rfl rfl (any_of HT_.out (by kernel_rfl)) (fun _ _ _ h => h) (Or.inl ⟨by rfl, ?_⟩) ?_ ?_
             rotate_left
             ·intro w'
              go_simp
              with_reducible rfl
             rotate_left
             ·simp only [Act.put, List.setIfInBounds_toArray, List.set_cons_zero, List.set_cons_succ, i64_w, i32_w]
              rfl
             refine pure_ (i := 16) (N := some 72) (v := ?_) (a' := ?_) #[true, true, true, true, true, true, true, true, true, true, true, true, true, true, true, true, true, false, false, false, false, false, false, false] rfl rfl (any_of HT_.out (by kernel_rfl)) (fun _ _ _ h => h) (Or.inl ⟨by rfl, ?_⟩) ?_ ?_
             rotate_left
             ·intro w'
              go_simp
              with_reducible rfl
             rotate_left
             ·simp only [Act.put, List.setIfInBounds_toArray, List.set_cons_zero, List.set_cons_succ, i64_w, i32_w]
              rfl
             refine pure_ (i := 17) (N := some 73) (v := ?_) (a' := ?_) #[true, true, true, true, true, true, true, true, true, true, true, true, true, true, true, true, true, true, false, false, false, false, false, false] rfl rfl (any_of HT_.out (by kernel_rfl)) (fun _ _ _ h => h) (Or.inl ⟨by rfl, ?_⟩) ?_ ?_
             rotate_left
             ·intro w'
              go_simp
              with_reducible rfl
             rotate_left
             ·simp only [Act.put, List.setIfInBounds_toArray, List.set_cons_zero, List.set_cons_succ, i64_w, i32_w]
              rfl
             refine pure_ (i := 18) (N := some 74) (v := ?_) (a' := ?_) #[true, true, true, true, true, true, true, true, true, true, true, true, true, true, true, true, true, true, true, false, false, false, false, false] rfl rfl (any_of HT_.out (by kernel_rfl)) (fun _ _ _ h => h) (Or.inl ⟨by rfl, ?_⟩) ?_ ?_
             rotate_left
             ·intro w'
              go_simp
              with_reducible rfl
             rotate_left
             ·simp only [Act.put, List.setIfInBounds_toArray, List.set_cons_zero, List.set_cons_succ, i64_w, i32_w]
              rfl
             refine take_ (i := 19) (N := some 75) (v := ?_) (a' := ?_) #[true, true, true, true, true, true, true, true, true, true, true, true, true, true, true, true, true, true, true, true, false, false, false, false] rfl rfl (take_ofW HT_.out HW_.out (by kernel_rfl)) (fun _ _ _ h => h) (Or.inl ⟨by rfl, ?_⟩) hHeld ?_ ?_
             rotate_left
             ·rintro w' ⟨s0, s1, s2, s3, s4, s5, s6, s7, s8, s9, s10, s11, s12, s13, s14, s15, s16, s17, s18, s19, s20, s21, s22, s23⟩
              go_simp
              with_reducible rfl
             rotate_left
             ·simp only [Act.put, List.setIfInBounds_toArray, List.set_cons_zero, List.set_cons_succ, i64_w, i32_w]
              rfl
             refine one_ (i := 20) (N := some 76) #[true, true, true, true, true, true, true, true, true, true, true, true, true, true, true, true, true, true, true, true, true, false, false, false] rfl rfl (one_of HT_.out (by kernel_rfl)) (by decide) (fun K hK => ?_)
             refine goes_ Try.func12 (by kernel_rfl) rfl #[.agg #[.int .i64 t505, .string t506, .int .i64 t507, .int .i64 t508, .string t509, .slice Ao33 t510.length co33, .slice Ao34 t513.length co34], .int .i64 0] (by rfl) rfl rfl yb ?_
             with_reducible refine (columbariumlaw13_flat.calls k2 t505 t506 t507 t508 t509 _ _ t510 _ _ t513 0 true _ ?side1 ?side2 ?side3 ?side4 A73.out).mono ?_
             (case side1 => exact zC ((Kd.V_reads' HO_517005.out).2.2))
             (case side2 => exact (Kd.V_reads' HO_517005.out).2.1)
             (case side3 => exact zC ((Kd.V_reads' HO_517006.out).2.2))
             (case side4 => exact (Kd.V_reads' HO_517006.out).2.1)
             rintro e w89 ⟨rfl, hb⟩
             refine ⟨_, rfl, ?_⟩
             replace HO_1 := zN HO_1 hb
             replace HO_465005 := zV HO_465005 hb
             replace HO_465006 := zV HO_465006 hb
             replace HO_502005 := zV HO_502005 hb
             replace HO_502006 := zV HO_502006 hb
             replace HO_517005 := zV HO_517005 hb
             replace HO_517006 := zV HO_517006 hb
             replace HL538_2 := zV HL538_2 hb
             replace HO543 := zR HO543 hb
             replace BK464 := zK BK464 hb
             replace BK501 := zK BK501 hb
             replace BK516 := zK BK516 hb
             replace BK544 := zK BK544 hb
             replace HB := zM (below_step mZ hb)
             (try clear hb)
             (try clear hb2)
             (try clear hk)
             (try clear hi)
             refine hK.out _ _ (zI7 BK464 (zI3 BK544 (zI7 BK501 (zJ7 BK516)))) (fun hHeld => ?_)
             clear hK K
             refine norm_ (a' := ?_) ?_ ?_
             rotate_left
             ·show Act.put _ (some 76) _ = _
              simp only [Act.put, List.setIfInBounds_toArray, List.set_cons_zero, List.set_cons_succ, i64_w, i32_w]
              rfl
             refine pure_ (i := 21) (N := some 77) (v := ?_) (a' := ?_) #[true, true, true, true, true, true, true, true, true, true, true, true, true, true, true, true, true, true, true, true, true, true, false, false] rfl rfl (any_of HT_.out (by kernel_rfl)) (fun _ _ _ h => h) (Or.inl ⟨by rfl, ?_⟩) ?_ ?_
             rotate_left
             ·intro w'
              go_simp
              with_reducible rfl
             rotate_left
             ·simp only [Act.put, List.setIfInBounds_toArray, List.set_cons_zero, List.set_cons_succ, i64_w, i32_w]
              rfl
             refine pure_ (i := 22) (N := some 78) (v := ?_) (a' := ?_) #[true, true, true, true, true, true, true, true, true, true, true, true, true, true, true, true, true, true, true, true, true, true, true, false] rfl rfl (any_of HT_.out (by kernel_rfl)) (fun _ _ _ h => h) (Or.inl ⟨by rfl, ?_⟩) ?_ ?_
             rotate_left
             ·intro w'
              go_simp
              with_reducible rfl
             rotate_left
             ·simp only [Act.put, List.setIfInBounds_toArray, List.set_cons_zero, List.set_cons_succ, i64_w, i32_w]
              rfl
             refine pure_ (i := 23) (N := some 79) (v := ?_) (a' := ?_) #[true, true, true, true, true, true, true, true, true, true, true, true, true, true, true, true, true, true, true, true, true, true, true, true] rfl rfl (any_of HT_.out (by kernel_rfl)) (fun _ _ _ h => h) (Or.inl ⟨by rfl, ?_⟩) ?_ ?_
             rotate_left
             ·intro w'
              go_simp
              with_reducible rfl
             rotate_left
             ·simp only [Act.put, List.setIfInBounds_toArray, List.set_cons_zero, List.set_cons_succ, i64_w, i32_w]
              rfl
             refine done_ (done_of HT_.out (by kernel_rfl)) ?_
             try go_wp2
             go_roundg k2
             case measure => have := HJ7.out; have := HK2.out; omega
             case rel => exact ⟨(wrap64 (x8_2 + 1)), ya, H', ⟨by have := HJ7.out; have := HK2.out; omega⟩, ⟨yN HO_1 (fun _ hk => ⟨hk.2.1, ⟨hk.2.2.1, hk.2.2.2.1⟩⟩)⟩, ⟨yV HO_465005 (fun _ hk => ⟨hk.1, ⟨hk.2.2.1, ⟨hk.2.2.2.1, hk.2.2.2.2.1⟩⟩⟩)⟩, ⟨yV HO_465006 (fun _ hk => ⟨hk.1, ⟨hk.2.2.1, ⟨hk.2.2.2.1, hk.2.2.2.2.1⟩⟩⟩)⟩, ⟨yV HO_502005 (fun _ hk => ⟨hk.1, ⟨hk.2.2.1, ⟨hk.2.2.2.1, hk.2.2.2.2.1⟩⟩⟩)⟩, ⟨yV HO_502006 (fun _ hk => ⟨hk.1, ⟨hk.2.2.1, ⟨hk.2.2.2.1, hk.2.2.2.2.1⟩⟩⟩)⟩, ⟨yV HO_517005 (fun _ hk => ⟨hk.1, ⟨hk.2.2.1, ⟨hk.2.2.2.1, hk.2.2.2.2.1⟩⟩⟩)⟩, ⟨yV HO_517006 (fun _ hk => ⟨hk.1, ⟨hk.2.2.1, ⟨hk.2.2.2.1, hk.2.2.2.2.1⟩⟩⟩)⟩, ⟨mK BK464.out⟩, ⟨mK BK501.out⟩, ⟨mK BK516.out⟩, ⟨mZ⟩⟩
            ·replace c74 := Bool.eq_false_iff.mpr c74
             subst c74
             have H1 : (some false) = some r := by rw [if_neg (show ¬ (false = true) by decide)] at H; exact H
             clear H
             have H := H1
             clear H1
             exact absurd ((Option.some.inj H).trans hrt_.out) (by decide)
           ·replace c72 := Bool.eq_false_iff.mpr c72
            subst c72
            have H1 : (columbariumlaw13_PredNormal.l0 k2 t534 false (wrap64 (x8_2 + 1)) t465 t466 t467 t468 t469 t470 t473 t490 t491 t492 t493 t494 t495 t498 t505 t506 t507 t508 t509 t510 t513) = some r := by rw [if_neg (show ¬ (false = true) by decide)] at H; exact H
            clear H
            have H := H1
            clear H1
            have H' := Aside0.mk H
            clear H
            obtain ⟨Ao90, co90, eo90⟩ := Kd.N_slice HO_1.out
            subst eo90
            have p538 : 0 ≤ (x8_2 : Int) := zA
            have q538 : x8_2 < (t534.length : Int) := zA
            obtain ⟨ad538, A538_2, c538_2, e538, hx538_0, hx538_1, hx538_2, hl538_2, hi538_2⟩ := at_T36 (Kd.N_reads' HO_1.out).2.2 x8_2 p538 q538
            cases e538
            obtain ⟨ce538, hce538, hMe538, hcc538⟩ := Kd.N_get HO_1.out z36 x8_2 p538 (by first | exact q538 | exact zA | (have e_ := (Kd.N_reads' HO_1.out).1; omega))
            obtain ⟨ua538_2, uc538_2, rfl, ul538_2, ge538_2⟩ := k36_openF hMe538
            have hv538_2 := hcc538 2 _ rfl
            rw [add_field _ _ 2 (by omega)] at hv538_2
            replace hv538_2 := Option.some.inj (hv538_2.symm.trans hx538_2)
            injection hv538_2 with hva_ hvn_ hvc_
            rw [hva_] at ge538_2
            rw [hvc_] at ul538_2
            have HL538_2 := zM (show Kd.V k52 52 _ w.heap.size _ _ ((rd_T36 t534 x8_2).f2) from Kd.V_mk ul538_2 ge538_2)
            clear hva_ hvn_ hvc_ ge538_2 ul538_2
            clear hcc538 hce538
            have HR538_2 := zM hi538_2
            have HC538_2 := zM hl538_2
            clear hi538_2 hl538_2
            replace p538 := eq_true p538
            replace q538 := eq_true q538
            try go_wp2_with (first | ((with_reducible refine gate_callee (f := 14) rfl ?_); refine goesL_ (some 55) rfl rfl Try.func14 (by kernel_rfl) rfl #[.agg #[.int .i64 ((rd_T36 t534 x8_2).f0), .int .i64 ((rd_T36 t534 x8_2).f1), .slice A538_2 ((rd_T36 t534 x8_2).f2).length c538_2], .int .i64 x8_2] rfl yb ?_; (with_reducible refine (columbariumkeep_Tame.calls k2 ((rd_T36 t534 x8_2).f0) ((rd_T36 t534 x8_2).f1) _ _ ((rd_T36 t534 x8_2).f2) x8_2 t539 t540 t541 _ ?side1 ?side2 A65.out).mono ?_); (case side1 => repeat (first | exact (by repeat (first | (with_reducible exact HR538_2.out) | (with_reducible refine Kd.C_alloc ?_ _) | (with_reducible refine Kd.C_drewN ?_ _) | (with_reducible refine Kd.C_drew ?_) | exact HR538_2.out)) | (with_reducible refine Kd.C_alloc ?_ _) | (with_reducible refine Kd.C_drewN ?_ _) | (with_reducible refine Kd.C_drew ?_))); (case side2 => first | exact HC538_2.out | exact Kd.V_mono HC538_2.out (fun k_ hk_ => by grind)); rintro e w91 ⟨v542, rfl, ho0, hb⟩; refine ⟨_, rfl, ?_⟩; replace HO_1 := zM (Kd.N_elder' (mN HO_1.out) (Kd.R_base ho0) hb); replace HO_465005 := zM (Kd.V_elder' (mV HO_465005.out) (Kd.R_base ho0) hb); replace HO_465006 := zM (Kd.V_elder' (mV HO_465006.out) (Kd.R_base ho0) hb); replace HO_502005 := zM (Kd.V_elder' (mV HO_502005.out) (Kd.R_base ho0) hb); replace HO_502006 := zM (Kd.V_elder' (mV HO_502006.out) (Kd.R_base ho0) hb); replace HO_517005 := zM (Kd.V_elder' (mV HO_517005.out) (Kd.R_base ho0) hb); replace HO_517006 := zM (Kd.V_elder' (mV HO_517006.out) (Kd.R_base ho0) hb); replace HL538_2 := zM (Kd.V_elder' (mV HL538_2.out) (Kd.R_base ho0) hb); have HO543 := zM (Kd.R_lower ho0 (below_size mZ)); replace BK464 := zK BK464 hb; replace BK501 := zK BK501 hb; replace BK516 := zK BK516 hb; replace HR538_2 := zM (Kd.C_below (by repeat (first | (with_reducible exact HR538_2.out) | (with_reducible refine Kd.C_alloc ?_ _) | (with_reducible refine Kd.C_drewN ?_ _) | (with_reducible refine Kd.C_drew ?_) | exact HR538_2.out)) hb); replace HB := zM (below_step mZ hb); (try clear hb); (try clear ho0)) | ((with_reducible refine gate_dst (N := 9) rfl ?_); refine box_event ?hg (N := 9) ?hd (cs := #[.int .i64 0, .int .i64 0, .slice none 0 0]) (t := 36) ?hr ?_; (case hd => rfl); (case hg => rfl); (case hr => first | (go_simp; done) | (go_simp; rfl)); intro gb544 hg w92 hbox hb; replace HO_1 := zM (Kd.N_below (Kd.N_elderB (mN HO_1.out) gb544 (Nat.le_of_eq hg.symm)) hb); replace HO_465005 := zM (Kd.V_below (Kd.V_elderB (mV HO_465005.out) gb544 (Nat.le_of_eq hg.symm)) hb); replace HO_465006 := zM (Kd.V_below (Kd.V_elderB (mV HO_465006.out) gb544 (Nat.le_of_eq hg.symm)) hb); replace HO_502005 := zM (Kd.V_below (Kd.V_elderB (mV HO_502005.out) gb544 (Nat.le_of_eq hg.symm)) hb); replace HO_502006 := zM (Kd.V_below (Kd.V_elderB (mV HO_502006.out) gb544 (Nat.le_of_eq hg.symm)) hb); replace HO_517005 := zM (Kd.V_below (Kd.V_elderB (mV HO_517005.out) gb544 (Nat.le_of_eq hg.symm)) hb); replace HO_517006 := zM (Kd.V_below (Kd.V_elderB (mV HO_517006.out) gb544 (Nat.le_of_eq hg.symm)) hb); replace HL538_2 := zM (Kd.V_below (Kd.V_elderB (mV HL538_2.out) gb544 (Nat.le_of_eq hg.symm)) hb); replace HO543 := zR HO543 hb; replace HR538_2 := zM (Kd.C_below (by repeat (first | (with_reducible exact HR538_2.out) | (with_reducible refine Kd.C_alloc ?_ _) | (with_reducible refine Kd.C_drewN ?_ _) | (with_reducible refine Kd.C_drew ?_) | exact HR538_2.out)) hb); have BK544 := zM (hbox); have GW544 := zM ((by rw [hg]; exact (below_size mZ) : w.heap.size ≤ gb544)); replace HB := zM (below_step mZ hb); have GE544 := GW544; have NB464_544 := zL BK464 hg; have NB544_464 := zG BK464 hg; replace BK464 := zK BK464 hb; have NB501_544 := zL BK501 hg; have NB544_501 := zG BK501 hg; replace BK501 := zK BK501 hb; have NB516_544 := zL BK516 hg; have NB544_516 := zG BK516 hg; replace BK516 := zK BK516 hb; clear hb hbox hg; have hnb93 := NB544_464.out; have hnc93 := NB464_544.out; have hnb94 := NB544_501.out; have hnc94 := NB501_544.out; have hnb95 := NB544_516.out; have hnc95 := NB516_544.out; obtain ⟨hcz96_0, hcz96_1, hcz96_2, hfz96_0, hfz96_1, hfz96_2⟩ := cells_3 BK544.out; obtain ⟨Ao97, co97, eo97⟩ := Kd.R_slice HO543.out; subst eo97))
            have n0_ : Aside0 (Kd.N k36 36 (((w92.setCell ⟨gb544, 0, none⟩ (.int .i64 t539)).setCell ⟨gb544, 1, none⟩ (.int .i64 t540)).setCell ⟨gb544, 2, none⟩ (.slice Ao97 t541.length co97)) w.heap.size (fun k_ => some k_ ≠ (.slice Ao97 t541.length co97 : Value).ownBlock ∧ k_ ≠ gb464 ∧ k_ ≠ gb501 ∧ k_ ≠ gb516 ∧ k_ ≠ gb544) (.slice (some ad538) t534.length co90) t534) := ⟨by (with_reducible repeat (first | apply Kd.N_alloc | apply Kd.N_drewN | apply Kd.N_drew)); exact Kd.N_mono (zgN (Kd.N_mono HO_1.out (fun k_ hk => (⟨hk, hk.2⟩ : _ ∧ k_ ≠ gb544)))) (fun _ hk => ⟨hk.1.1.2, ⟨hk.1.1.1.1, ⟨hk.1.1.1.2.1, ⟨hk.1.1.1.2.2, hk.1.2⟩⟩⟩⟩)⟩
            have n1_ : Aside0 (Kd.V Kd.string 9 (((w92.setCell ⟨gb544, 0, none⟩ (.int .i64 t539)).setCell ⟨gb544, 1, none⟩ (.int .i64 t540)).setCell ⟨gb544, 2, none⟩ (.slice Ao97 t541.length co97)) w.heap.size (fun k_ => some k_ ≠ (.slice (some ad538) t534.length co90 : Value).ownBlock ∧ some k_ ≠ (.slice Ao97 t541.length co97 : Value).ownBlock ∧ k_ ≠ gb464 ∧ k_ ≠ gb501 ∧ k_ ≠ gb516 ∧ k_ ≠ gb544) (.slice Ao13 t470.length co13) t470) := ⟨by (with_reducible repeat (first | apply Kd.V_alloc | apply Kd.V_drewN | apply Kd.V_drew)); exact Kd.V_mono (zgV (Kd.V_mono HO_465005.out (fun k_ hk => (⟨hk, hk.2⟩ : _ ∧ k_ ≠ gb544)))) (fun _ hk => ⟨hk.1.1.1.1, ⟨hk.1.1.2, ⟨hk.1.1.1.2.1, ⟨hk.1.1.1.2.2.1, ⟨hk.1.1.1.2.2.2, hk.1.2⟩⟩⟩⟩⟩)⟩
            have n2_ : Aside0 (Kd.V k25 25 (((w92.setCell ⟨gb544, 0, none⟩ (.int .i64 t539)).setCell ⟨gb544, 1, none⟩ (.int .i64 t540)).setCell ⟨gb544, 2, none⟩ (.slice Ao97 t541.length co97)) w.heap.size (fun k_ => some k_ ≠ (.slice (some ad538) t534.length co90 : Value).ownBlock ∧ some k_ ≠ (.slice Ao97 t541.length co97 : Value).ownBlock ∧ k_ ≠ gb464 ∧ k_ ≠ gb501 ∧ k_ ≠ gb516 ∧ k_ ≠ gb544) (.slice Ao14 t473.length co14) t473) := ⟨by (with_reducible repeat (first | apply Kd.V_alloc | apply Kd.V_drewN | apply Kd.V_drew)); exact Kd.V_mono (zgV (Kd.V_mono HO_465006.out (fun k_ hk => (⟨hk, hk.2⟩ : _ ∧ k_ ≠ gb544)))) (fun _ hk => ⟨hk.1.1.1.1, ⟨hk.1.1.2, ⟨hk.1.1.1.2.1, ⟨hk.1.1.1.2.2.1, ⟨hk.1.1.1.2.2.2, hk.1.2⟩⟩⟩⟩⟩)⟩
            have n3_ : Aside0 (Kd.V Kd.string 9 (((w92.setCell ⟨gb544, 0, none⟩ (.int .i64 t539)).setCell ⟨gb544, 1, none⟩ (.int .i64 t540)).setCell ⟨gb544, 2, none⟩ (.slice Ao97 t541.length co97)) w.heap.size (fun k_ => some k_ ≠ (.slice (some ad538) t534.length co90 : Value).ownBlock ∧ some k_ ≠ (.slice Ao97 t541.length co97 : Value).ownBlock ∧ k_ ≠ gb464 ∧ k_ ≠ gb501 ∧ k_ ≠ gb516 ∧ k_ ≠ gb544) (.slice Ao21 t495.length co21) t495) := ⟨by (with_reducible repeat (first | apply Kd.V_alloc | apply Kd.V_drewN | apply Kd.V_drew)); exact Kd.V_mono (zgV (Kd.V_mono HO_502005.out (fun k_ hk => (⟨hk, hk.2⟩ : _ ∧ k_ ≠ gb544)))) (fun _ hk => ⟨hk.1.1.1.1, ⟨hk.1.1.2, ⟨hk.1.1.1.2.1, ⟨hk.1.1.1.2.2.1, ⟨hk.1.1.1.2.2.2, hk.1.2⟩⟩⟩⟩⟩)⟩
            have n4_ : Aside0 (Kd.V k25 25 (((w92.setCell ⟨gb544, 0, none⟩ (.int .i64 t539)).setCell ⟨gb544, 1, none⟩ (.int .i64 t540)).setCell ⟨gb544, 2, none⟩ (.slice Ao97 t541.length co97)) w.heap.size (fun k_ => some k_ ≠ (.slice (some ad538) t534.length co90 : Value).ownBlock ∧ some k_ ≠ (.slice Ao97 t541.length co97 : Value).ownBlock ∧ k_ ≠ gb464 ∧ k_ ≠ gb501 ∧ k_ ≠ gb516 ∧ k_ ≠ gb544) (.slice Ao22 t498.length co22) t498) := ⟨by (with_reducible repeat (first | apply Kd.V_alloc | apply Kd.V_drewN | apply Kd.V_drew)); exact Kd.V_mono (zgV (Kd.V_mono HO_502006.out (fun k_ hk => (⟨hk, hk.2⟩ : _ ∧ k_ ≠ gb544)))) (fun _ hk => ⟨hk.1.1.1.1, ⟨hk.1.1.2, ⟨hk.1.1.1.2.1, ⟨hk.1.1.1.2.2.1, ⟨hk.1.1.1.2.2.2, hk.1.2⟩⟩⟩⟩⟩)⟩
            have n5_ : Aside0 (Kd.V Kd.string 9 (((w92.setCell ⟨gb544, 0, none⟩ (.int .i64 t539)).setCell ⟨gb544, 1, none⟩ (.int .i64 t540)).setCell ⟨gb544, 2, none⟩ (.slice Ao97 t541.length co97)) w.heap.size (fun k_ => some k_ ≠ (.slice (some ad538) t534.length co90 : Value).ownBlock ∧ some k_ ≠ (.slice Ao97 t541.length co97 : Value).ownBlock ∧ k_ ≠ gb464 ∧ k_ ≠ gb501 ∧ k_ ≠ gb516 ∧ k_ ≠ gb544) (.slice Ao33 t510.length co33) t510) := ⟨by (with_reducible repeat (first | apply Kd.V_alloc | apply Kd.V_drewN | apply Kd.V_drew)); exact Kd.V_mono (zgV (Kd.V_mono HO_517005.out (fun k_ hk => (⟨hk, hk.2⟩ : _ ∧ k_ ≠ gb544)))) (fun _ hk => ⟨hk.1.1.1.1, ⟨hk.1.1.2, ⟨hk.1.1.1.2.1, ⟨hk.1.1.1.2.2.1, ⟨hk.1.1.1.2.2.2, hk.1.2⟩⟩⟩⟩⟩)⟩
            have n6_ : Aside0 (Kd.V k25 25 (((w92.setCell ⟨gb544, 0, none⟩ (.int .i64 t539)).setCell ⟨gb544, 1, none⟩ (.int .i64 t540)).setCell ⟨gb544, 2, none⟩ (.slice Ao97 t541.length co97)) w.heap.size (fun k_ => some k_ ≠ (.slice (some ad538) t534.length co90 : Value).ownBlock ∧ some k_ ≠ (.slice Ao97 t541.length co97 : Value).ownBlock ∧ k_ ≠ gb464 ∧ k_ ≠ gb501 ∧ k_ ≠ gb516 ∧ k_ ≠ gb544) (.slice Ao34 t513.length co34) t513) := ⟨by (with_reducible repeat (first | apply Kd.V_alloc | apply Kd.V_drewN | apply Kd.V_drew)); exact Kd.V_mono (zgV (Kd.V_mono HO_517006.out (fun k_ hk => (⟨hk, hk.2⟩ : _ ∧ k_ ≠ gb544)))) (fun _ hk => ⟨hk.1.1.1.1, ⟨hk.1.1.2, ⟨hk.1.1.1.2.1, ⟨hk.1.1.1.2.2.1, ⟨hk.1.1.1.2.2.2, hk.1.2⟩⟩⟩⟩⟩)⟩
            have n7_ : Aside0 (Kd.V k52 52 (((w92.setCell ⟨gb544, 0, none⟩ (.int .i64 t539)).setCell ⟨gb544, 1, none⟩ (.int .i64 t540)).setCell ⟨gb544, 2, none⟩ (.slice Ao97 t541.length co97)) w.heap.size (fun k_ => some k_ ≠ (.slice (some ad538) t534.length co90 : Value).ownBlock ∧ some k_ ≠ (.slice Ao97 t541.length co97 : Value).ownBlock ∧ k_ ≠ gb464 ∧ k_ ≠ gb501 ∧ k_ ≠ gb516 ∧ k_ ≠ gb544) (.slice A538_2 ((rd_T36 t534 x8_2).f2).length c538_2) ((rd_T36 t534 x8_2).f2)) := ⟨by (with_reducible repeat (first | apply Kd.V_alloc | apply Kd.V_drewN | apply Kd.V_drew)); exact Kd.V_mono (zgV (Kd.V_mono HL538_2.out (fun k_ hk => (⟨hk, hk.2⟩ : _ ∧ k_ ≠ gb544)))) (fun _ hk => ⟨hk.1.1.1.2, ⟨hk.1.1.2, ⟨hk.1.1.1.1.1, ⟨hk.1.1.1.1.2.1, ⟨hk.1.1.1.1.2.2, hk.1.2⟩⟩⟩⟩⟩)⟩
            have n8_ : Aside0 (Kd.R k52 52 (((w92.setCell ⟨gb544, 0, none⟩ (.int .i64 t539)).setCell ⟨gb544, 1, none⟩ (.int .i64 t540)).setCell ⟨gb544, 2, none⟩ (.slice Ao97 t541.length co97)) w.heap.size (fun _ => True) (.slice Ao97 t541.length co97) t541) := ⟨by (with_reducible repeat (first | apply Kd.R_alloc | apply Kd.R_drewN | apply Kd.R_drew)); exact Kd.R_mono (zgR (Kd.R_types HO543.out BK544.out (by decide))) (fun _ hk => trivial)⟩
            have n9_ : Aside0 ((((w92.setCell ⟨gb544, 0, none⟩ (.int .i64 t539)).setCell ⟨gb544, 1, none⟩ (.int .i64 t540)).setCell ⟨gb544, 2, none⟩ (.slice Ao97 t541.length co97)).heap[gb464]? = some (.cells #[.int .i64 t465, .string t466, .int .i64 t467, .int .i64 t468, .string t469, .slice Ao13 t470.length co13, .slice Ao14 t473.length co14] 25 (0, 0))) := ⟨by (with_reducible repeat (first | refine blk_drewN ?_ _ | refine blk_drew ?_ | refine blk_alloc ?_ _)); refine blk_far ?_ NB464_544.out _; refine blk_far ?_ NB464_544.out _; refine blk_far ?_ NB464_544.out _; (with_reducible repeat (first | refine blk_drewN ?_ _ | refine blk_drew ?_ | refine blk_alloc ?_ _)); exact BK464.out⟩
            have n10_ : Aside0 ((((w92.setCell ⟨gb544, 0, none⟩ (.int .i64 t539)).setCell ⟨gb544, 1, none⟩ (.int .i64 t540)).setCell ⟨gb544, 2, none⟩ (.slice Ao97 t541.length co97)).heap[gb501]? = some (.cells #[.int .i64 t490, .string t491, .int .i64 t492, .int .i64 t493, .string t494, .slice Ao21 t495.length co21, .slice Ao22 t498.length co22] 25 (0, 0))) := ⟨by (with_reducible repeat (first | refine blk_drewN ?_ _ | refine blk_drew ?_ | refine blk_alloc ?_ _)); refine blk_far ?_ NB501_544.out _; refine blk_far ?_ NB501_544.out _; refine blk_far ?_ NB501_544.out _; (with_reducible repeat (first | refine blk_drewN ?_ _ | refine blk_drew ?_ | refine blk_alloc ?_ _)); exact BK501.out⟩
            have n11_ : Aside0 ((((w92.setCell ⟨gb544, 0, none⟩ (.int .i64 t539)).setCell ⟨gb544, 1, none⟩ (.int .i64 t540)).setCell ⟨gb544, 2, none⟩ (.slice Ao97 t541.length co97)).heap[gb516]? = some (.cells #[.int .i64 t505, .string t506, .int .i64 t507, .int .i64 t508, .string t509, .slice Ao33 t510.length co33, .slice Ao34 t513.length co34] 25 (0, 0))) := ⟨by (with_reducible repeat (first | refine blk_drewN ?_ _ | refine blk_drew ?_ | refine blk_alloc ?_ _)); refine blk_far ?_ NB516_544.out _; refine blk_far ?_ NB516_544.out _; refine blk_far ?_ NB516_544.out _; (with_reducible repeat (first | refine blk_drewN ?_ _ | refine blk_drew ?_ | refine blk_alloc ?_ _)); exact BK516.out⟩
            have n12_ : Aside0 ((((w92.setCell ⟨gb544, 0, none⟩ (.int .i64 t539)).setCell ⟨gb544, 1, none⟩ (.int .i64 t540)).setCell ⟨gb544, 2, none⟩ (.slice Ao97 t541.length co97)).heap[gb544]? = some (.cells #[.int .i64 t539, .int .i64 t540, .slice Ao97 t541.length co97] 36 (0, 0))) := ⟨by (with_reducible repeat (first | refine blk_drewN ?_ _ | refine blk_drew ?_ | refine blk_alloc ?_ _)); apply puts_3; (with_reducible repeat (first | refine blk_drewN ?_ _ | refine blk_drew ?_ | refine blk_alloc ?_ _)); exact BK544.out⟩
            have n13_ : Aside0 (Below w.heap.size w (((w92.setCell ⟨gb544, 0, none⟩ (.int .i64 t539)).setCell ⟨gb544, 1, none⟩ (.int .i64 t540)).setCell ⟨gb544, 2, none⟩ (.slice Ao97 t541.length co97))) := ⟨mZ⟩
            (try clear HO_1)
            (try clear HO_465005)
            (try clear HO_465006)
            (try clear HO_502005)
            (try clear HO_502006)
            (try clear HO_517005)
            (try clear HO_517006)
            (try clear HL538_2)
            (try clear HO543)
            (try clear BK464)
            (try clear BK501)
            (try clear BK516)
            (try clear BK544)
            (try clear HB)
            generalize (((w92.setCell ⟨gb544, 0, none⟩ (.int .i64 t539)).setCell ⟨gb544, 1, none⟩ (.int .i64 t540)).setCell ⟨gb544, 2, none⟩ (.slice Ao97 t541.length co97)) = w98 at n0_ n1_ n2_ n3_ n4_ n5_ n6_ n7_ n8_ n9_ n10_ n11_ n12_ n13_ ⊢
            have HO_1 := n0_
            have HO_465005 := n1_
            have HO_465006 := n2_
            have HO_502005 := n3_
            have HO_502006 := n4_
            have HO_517005 := n5_
            have HO_517006 := n6_
            have HL538_2 := n7_
            have HO543 := n8_
            have BK464 := n9_
            have BK501 := n10_
            have BK516 := n11_
            have BK544 := n12_
            have HB := n13_
            clear n0_ n1_ n2_ n3_ n4_ n5_ n6_ n7_ n8_ n9_ n10_ n11_ n12_ n13_
            replace HO_1 := zM (Kd.N_drew HO_1.out)
            replace HO_465005 := zM (Kd.V_drew HO_465005.out)
            replace HO_465006 := zM (Kd.V_drew HO_465006.out)
            replace HO_502005 := zM (Kd.V_drew HO_502005.out)
            replace HO_502006 := zM (Kd.V_drew HO_502006.out)
            replace HO_517005 := zM (Kd.V_drew HO_517005.out)
            replace HO_517006 := zM (Kd.V_drew HO_517006.out)
            replace HL538_2 := zM (Kd.V_drew HL538_2.out)
            replace HO543 := zM (Kd.R_drew HO543.out)
            replace BK464 := zM (blk_drew BK464.out)
            replace BK501 := zM (blk_drew BK501.out)
            replace BK516 := zM (blk_drew BK516.out)
            replace BK544 := zM (blk_drew BK544.out)
            replace HB := zM (below_drew1 HB.out)
            refine start_ (n := 24) (S := fun w' => w'.cell? ⟨gb464, 0, none⟩ = some (.int .i64 t465) ∧ w'.cell? ⟨gb464, 1, none⟩ = some (.string t466) ∧ w'.cell? ⟨gb464, 2, none⟩ = some (.int .i64 t467) ∧ w'.cell? ⟨gb464, 3, none⟩ = some (.int .i64 t468) ∧ w'.cell? ⟨gb464, 4, none⟩ = some (.string t469) ∧ w'.cell? ⟨gb464, 5, none⟩ = some (.slice Ao13 t470.length co13) ∧ w'.cell? ⟨gb464, 6, none⟩ = some (.slice Ao14 t473.length co14) ∧ w'.cell? ⟨gb544, 0, none⟩ = some (.int .i64 t539) ∧ w'.cell? ⟨gb544, 1, none⟩ = some (.int .i64 t540) ∧ w'.cell? ⟨gb544, 2, none⟩ = some (.slice Ao97 t541.length co97) ∧ w'.cell? ⟨gb501, 0, none⟩ = some (.int .i64 t490) ∧ w'.cell? ⟨gb501, 1, none⟩ = some (.string t491) ∧ w'.cell? ⟨gb501, 2, none⟩ = some (.int .i64 t492) ∧ w'.cell? ⟨gb501, 3, none⟩ = some (.int .i64 t493) ∧ w'.cell? ⟨gb501, 4, none⟩ = some (.string t494) ∧ w'.cell? ⟨gb501, 5, none⟩ = some (.slice Ao21 t495.length co21) ∧ w'.cell? ⟨gb501, 6, none⟩ = some (.slice Ao22 t498.length co22) ∧ w'.cell? ⟨gb516, 0, none⟩ = some (.int .i64 t505) ∧ w'.cell? ⟨gb516, 1, none⟩ = some (.string t506) ∧ w'.cell? ⟨gb516, 2, none⟩ = some (.int .i64 t507) ∧ w'.cell? ⟨gb516, 3, none⟩ = some (.int .i64 t508) ∧ w'.cell? ⟨gb516, 4, none⟩ = some (.string t509) ∧ w'.cell? ⟨gb516, 5, none⟩ = some (.slice Ao33 t510.length co33) ∧ w'.cell? ⟨gb516, 6, none⟩ = some (.slice Ao34 t513.length co34)) (ds := []) #[false, false, false, false, false, false, false, false, false, false, false, false, false, false, false, false, false, false, false, false, false, false, false, false] (by kernel_rfl) rfl rfl (zI7 BK464 (zI3 BK544 (zI7 BK501 (zJ7 BK516)))) (fun hHeld => ?_); refine with_tabW columbariumlaw13_PredNormal.tab14 columbariumlaw13_PredNormal.bits14 (fun HT_ HW_ => ?_)
            generalize w98.drew = w99 at HO_1 HO_465005 HO_465006 HO_502005 HO_502006 HO_517005 HO_517006 HL538_2 HO543 BK464 BK501 BK516 BK544 HB hHeld ⊢
            refine take_ (i := 0) (N := some 56) (v := ?_) (a' := ?_) #[true, false, false, false, false, false, false, false, false, false, false, false, false, false, false, false, false, false, false, false, false, false, false, false] rfl rfl (take_ofW HT_.out HW_.out (by kernel_rfl)) (fun _ _ _ h => h) (Or.inl ⟨by rfl, ?_⟩) hHeld ?_ ?_
            rotate_left
            ·rintro w' ⟨s0, s1, s2, s3, s4, s5, s6, s7, s8, s9, s10, s11, s12, s13, s14, s15, s16, s17, s18, s19, s20, s21, s22, s23⟩
             go_simp
             with_reducible rfl
            rotate_left
            ·simp only [Act.put, List.setIfInBounds_toArray, List.set_cons_zero, List.set_cons_succ, i64_w, i32_w]
             rfl
            refine take_ (i := 1) (N := some 57) (v := ?_) (a' := ?_) #[true, true, false, false, false, false, false, false, false, false, false, false, false, false, false, false, false, false, false, false, false, false, false, false] rfl rfl (take_ofW HT_.out HW_.out (by kernel_rfl)) (fun _ _ _ h => h) (Or.inl ⟨by rfl, ?_⟩) hHeld ?_ ?_
            rotate_left
            ·rintro w' ⟨s0, s1, s2, s3, s4, s5, s6, s7, s8, s9, s10, s11, s12, s13, s14, s15, s16, s17, s18, s19, s20, s21, s22, s23⟩
             go_simp
             with_reducible rfl
            rotate_left
            ·simp only [Act.put, List.setIfInBounds_toArray, List.set_cons_zero, List.set_cons_succ, i64_w, i32_w]
             rfl
            refine take_ (i := 3) (N := some 59) (v := ?_) (a' := ?_) #[true, true, false, true, false, false, false, false, false, false, false, false, false, false, false, false, false, false, false, false, false, false, false, false] rfl rfl (take_ofW HT_.out HW_.out (by kernel_rfl)) (fun _ _ _ h => h) (Or.inl ⟨by rfl, ?_⟩) hHeld ?_ ?_
            rotate_left
            ·rintro w' ⟨s0, s1, s2, s3, s4, s5, s6, s7, s8, s9, s10, s11, s12, s13, s14, s15, s16, s17, s18, s19, s20, s21, s22, s23⟩
             go_simp
             with_reducible rfl
            rotate_left
            ·simp only [Act.put, List.setIfInBounds_toArray, List.set_cons_zero, List.set_cons_succ, i64_w, i32_w]
             rfl
            refine take_ (i := 4) (N := some 60) (v := ?_) (a' := ?_) #[true, true, false, true, true, false, false, false, false, false, false, false, false, false, false, false, false, false, false, false, false, false, false, false] rfl rfl (take_ofW HT_.out HW_.out (by kernel_rfl)) (fun _ _ _ h => h) (Or.inl ⟨by rfl, ?_⟩) hHeld ?_ ?_
            rotate_left
            ·rintro w' ⟨s0, s1, s2, s3, s4, s5, s6, s7, s8, s9, s10, s11, s12, s13, s14, s15, s16, s17, s18, s19, s20, s21, s22, s23⟩
             go_simp
             with_reducible rfl
            rotate_left
            ·simp only [Act.put, List.setIfInBounds_toArray, List.set_cons_zero, List.set_cons_succ, i64_w, i32_w]
             rfl
            refine one_ (i := 2) (N := some 58) #[true, true, true, true, true, false, false, false, false, false, false, false, false, false, false, false, false, false, false, false, false, false, false, false] rfl rfl (one_of HT_.out (by kernel_rfl)) (by decide) (fun K hK => ?_)
            refine goes_ Try.func15 (by kernel_rfl) rfl #[.agg #[.int .i64 t465, .string t466, .int .i64 t467, .int .i64 t468, .string t469, .slice Ao13 t470.length co13, .slice Ao14 t473.length co14], .agg #[.int .i64 t539, .int .i64 t540, .slice Ao97 t541.length co97]] (by rfl) rfl rfl yb ?_
            with_reducible refine (pred_Eval.calls k2 t465 t466 t467 t468 t469 _ _ t470 _ _ t473 t539 t540 _ _ t541 t545 _ ?side1 ?side2 ?side3 ?side4 ?side5 ?side6 A66.out).mono ?_
            (case side1 => exact zC ((Kd.V_reads' HO_465005.out).2.2))
            (case side2 => exact (Kd.V_reads' HO_465005.out).2.1)
            (case side3 => exact zC ((Kd.V_reads' HO_465006.out).2.2))
            (case side4 => exact (Kd.V_reads' HO_465006.out).2.1)
            (case side5 => exact zC ((Kd.R_reads' HO543.out).2.2))
            (case side6 => exact (Kd.R_reads' HO543.out).2.1)
            rintro e w100 ⟨rfl, hb⟩
            refine ⟨_, rfl, ?_⟩
            replace HO_1 := zN HO_1 hb
            replace HO_465005 := zV HO_465005 hb
            replace HO_465006 := zV HO_465006 hb
            replace HO_502005 := zV HO_502005 hb
            replace HO_502006 := zV HO_502006 hb
            replace HO_517005 := zV HO_517005 hb
            replace HO_517006 := zV HO_517006 hb
            replace HL538_2 := zV HL538_2 hb
            replace HO543 := zR HO543 hb
            replace BK464 := zK BK464 hb
            replace BK501 := zK BK501 hb
            replace BK516 := zK BK516 hb
            replace BK544 := zK BK544 hb
            replace HB := zM (below_step mZ hb)
            (try clear hb)
            (try clear hb2)
            (try clear hk)
            (try clear hi)
            refine hK.out _ _ (zI7 BK464 (zI3 BK544 (zI7 BK501 (zJ7 BK516)))) (fun hHeld => ?_)
            clear hK K
            refine norm_ (a' := ?_) ?_ ?_
            rotate_left
            ·show Act.put _ (some 58) _ = _
             simp only [Act.put, List.setIfInBounds_toArray, List.set_cons_zero, List.set_cons_succ, i64_w, i32_w]
             rfl
            refine one_ (i := 5) (N := some 61) #[true, true, true, true, true, true, false, false, false, false, false, false, false, false, false, false, false, false, false, false, false, false, false, false] rfl rfl (one_of HT_.out (by kernel_rfl)) (by decide) (fun K hK => ?_)
            refine goes_ Try.func15 (by kernel_rfl) rfl #[.agg #[.int .i64 t490, .string t491, .int .i64 t492, .int .i64 t493, .string t494, .slice Ao21 t495.length co21, .slice Ao22 t498.length co22], .agg #[.int .i64 t539, .int .i64 t540, .slice Ao97 t541.length co97]] (by rfl) rfl rfl yb ?_
            with_reducible refine (pred_Eval.calls k2 t490 t491 t492 t493 t494 _ _ t495 _ _ t498 t539 t540 _ _ t541 t546 _ ?side1 ?side2 ?side3 ?side4 ?side5 ?side6 A67.out).mono ?_
            (case side1 => exact zC ((Kd.V_reads' HO_502005.out).2.2))
            (case side2 => exact (Kd.V_reads' HO_502005.out).2.1)
            (case side3 => exact zC ((Kd.V_reads' HO_502006.out).2.2))
            (case side4 => exact (Kd.V_reads' HO_502006.out).2.1)
            (case side5 => exact zC ((Kd.R_reads' HO543.out).2.2))
            (case side6 => exact (Kd.R_reads' HO543.out).2.1)
            rintro e w101 ⟨rfl, hb⟩
            refine ⟨_, rfl, ?_⟩
            replace HO_1 := zN HO_1 hb
            replace HO_465005 := zV HO_465005 hb
            replace HO_465006 := zV HO_465006 hb
            replace HO_502005 := zV HO_502005 hb
            replace HO_502006 := zV HO_502006 hb
            replace HO_517005 := zV HO_517005 hb
            replace HO_517006 := zV HO_517006 hb
            replace HL538_2 := zV HL538_2 hb
            replace HO543 := zR HO543 hb
            replace BK464 := zK BK464 hb
            replace BK501 := zK BK501 hb
            replace BK516 := zK BK516 hb
            replace BK544 := zK BK544 hb
            replace HB := zM (below_step mZ hb)
            (try clear hb)
            (try clear hb2)
            (try clear hk)
            (try clear hi)
            refine hK.out _ _ (zI7 BK464 (zI3 BK544 (zI7 BK501 (zJ7 BK516)))) (fun hHeld => ?_)
            clear hK K
            refine norm_ (a' := ?_) ?_ ?_
            rotate_left
            ·show Act.put _ (some 61) _ = _
             simp only [Act.put, List.setIfInBounds_toArray, List.set_cons_zero, List.set_cons_succ, i64_w, i32_w]
             rfl
            refine pure_ (i := 6) (N := some 62) (v := ?_) (a' := ?_) #[true, true, true, true, true, true, true, false, false, false, false, false, false, false, false, false, false, false, false, false, false, false, false, false] rfl rfl (any_of HT_.out (by kernel_rfl)) (fun _ _ _ h => h) (Or.inl ⟨by rfl, ?_⟩) ?_ ?_
            rotate_left
            ·intro w'
             go_simp
             with_reducible rfl
            rotate_left
            ·simp only [Act.put, List.setIfInBounds_toArray, List.set_cons_zero, List.set_cons_succ, i64_w, i32_w]
             rfl
            refine pure_ (i := 7) (N := some 63) (v := ?_) (a' := ?_) #[true, true, true, true, true, true, true, true, false, false, false, false, false, false, false, false, false, false, false, false, false, false, false, false] rfl rfl (any_of HT_.out (by kernel_rfl)) (fun _ _ _ h => h) (Or.inl ⟨by rfl, ?_⟩) ?_ ?_
            rotate_left
            ·intro w'
             go_simp
             with_reducible rfl
            rotate_left
            ·simp only [Act.put, List.setIfInBounds_toArray, List.set_cons_zero, List.set_cons_succ, i64_w, i32_w]
             rfl
            refine take_ (i := 8) (N := some 64) (v := ?_) (a' := ?_) #[true, true, true, true, true, true, true, true, true, false, false, false, false, false, false, false, false, false, false, false, false, false, false, false] rfl rfl (take_ofW HT_.out HW_.out (by kernel_rfl)) (fun _ _ _ h => h) (Or.inl ⟨by rfl, ?_⟩) hHeld ?_ ?_
            rotate_left
            ·rintro w' ⟨s0, s1, s2, s3, s4, s5, s6, s7, s8, s9, s10, s11, s12, s13, s14, s15, s16, s17, s18, s19, s20, s21, s22, s23⟩
             go_simp
             with_reducible rfl
            rotate_left
            ·simp only [Act.put, List.setIfInBounds_toArray, List.set_cons_zero, List.set_cons_succ, i64_w, i32_w]
             rfl
            refine take_ (i := 9) (N := some 65) (v := ?_) (a' := ?_) #[true, true, true, true, true, true, true, true, true, true, false, false, false, false, false, false, false, false, false, false, false, false, false, false] rfl rfl (take_ofW HT_.out HW_.out (by kernel_rfl)) (fun _ _ _ h => h) (Or.inl ⟨by rfl, ?_⟩) hHeld ?_ ?_
            rotate_left
            ·rintro w' ⟨s0, s1, s2, s3, s4, s5, s6, s7, s8, s9, s10, s11, s12, s13, s14, s15, s16, s17, s18, s19, s20, s21, s22, s23⟩
             go_simp
             with_reducible rfl
            rotate_left
            ·simp only [Act.put, List.setIfInBounds_toArray, List.set_cons_zero, List.set_cons_succ, i64_w, i32_w]
             rfl
            refine take_ (i := 11) (N := some 67) (v := ?_) (a' := ?_) #[true, true, true, true, true, true, true, true, true, true, false, true, false, false, false, false, false, false, false, false, false, false, false, false] rfl rfl (take_ofW HT_.out HW_.out (by kernel_rfl)) (fun _ _ _ h => h) (Or.inl ⟨by rfl, ?_⟩) hHeld ?_ ?_
            rotate_left
            ·rintro w' ⟨s0, s1, s2, s3, s4, s5, s6, s7, s8, s9, s10, s11, s12, s13, s14, s15, s16, s17, s18, s19, s20, s21, s22, s23⟩
             go_simp
             with_reducible rfl
            rotate_left
            ·simp only [Act.put, List.setIfInBounds_toArray, List.set_cons_zero, List.set_cons_succ, i64_w, i32_w]
             rfl
            refine take_ (i := 12) (N := some 68) (v := ?_) (a' := ?_) #[true, true, true, true, true, true, true, true, true, true, false, true, true, false, false, false, false, false, false, false, false, false, false, false] rfl rfl (take_ofW HT_.out HW_.out (by kernel_rfl)) (fun _ _ _ h => h) (Or.inl ⟨by rfl, ?_⟩) hHeld ?_ ?_
            rotate_left
            ·rintro w' ⟨s0, s1, s2, s3, s4, s5, s6, s7, s8, s9, s10, s11, s12, s13, s14, s15, s16, s17, s18, s19, s20, s21, s22, s23⟩
             go_simp
             with_reducible rfl
            rotate_left
            ·simp only [Act.put, List.setIfInBounds_toArray, List.set_cons_zero, List.set_cons_succ, i64_w, i32_w]
             rfl
            refine one_ (i := 10) (N := some 66) #[true, true, true, true, true, true, true, true, true, true, true, true, true, false, false, false, false, false, false, false, false, false, false, false] rfl rfl (one_of HT_.out (by kernel_rfl)) (by decide) (fun K hK => ?_)
            refine goes_ Try.func15 (by kernel_rfl) rfl #[.agg #[.int .i64 t465, .string t466, .int .i64 t467, .int .i64 t468, .string t469, .slice Ao13 t470.length co13, .slice Ao14 t473.length co14], .agg #[.int .i64 t539, .int .i64 t540, .slice Ao97 t541.length co97]] (by rfl) rfl rfl yb ?_
            with_reducible refine (pred_Eval.calls k2 t465 t466 t467 t468 t469 _ _ t470 _ _ t473 t539 t540 _ _ t541 t547 _ ?side1 ?side2 ?side3 ?side4 ?side5 ?side6 A69.out).mono ?_
            (case side1 => exact zC ((Kd.V_reads' HO_465005.out).2.2))
            (case side2 => exact (Kd.V_reads' HO_465005.out).2.1)
            (case side3 => exact zC ((Kd.V_reads' HO_465006.out).2.2))
            (case side4 => exact (Kd.V_reads' HO_465006.out).2.1)
            (case side5 => exact zC ((Kd.R_reads' HO543.out).2.2))
            (case side6 => exact (Kd.R_reads' HO543.out).2.1)
            rintro e w102 ⟨rfl, hb⟩
            refine ⟨_, rfl, ?_⟩
            replace HO_1 := zN HO_1 hb
            replace HO_465005 := zV HO_465005 hb
            replace HO_465006 := zV HO_465006 hb
            replace HO_502005 := zV HO_502005 hb
            replace HO_502006 := zV HO_502006 hb
            replace HO_517005 := zV HO_517005 hb
            replace HO_517006 := zV HO_517006 hb
            replace HL538_2 := zV HL538_2 hb
            replace HO543 := zR HO543 hb
            replace BK464 := zK BK464 hb
            replace BK501 := zK BK501 hb
            replace BK516 := zK BK516 hb
            replace BK544 := zK BK544 hb
            replace HB := zM (below_step mZ hb)
            (try clear hb)
            (try clear hb2)
            (try clear hk)
            (try clear hi)
            refine hK.out _ _ (zI7 BK464 (zI3 BK544 (zI7 BK501 (zJ7 BK516)))) (fun hHeld => ?_)
            clear hK K
            refine norm_ (a' := ?_) ?_ ?_
            rotate_left
            ·show Act.put _ (some 66) _ = _
             simp only [Act.put, List.setIfInBounds_toArray, List.set_cons_zero, List.set_cons_succ, i64_w, i32_w]
             rfl
            refine one_ (i := 13) (N := some 69) #[true, true, true, true, true, true, true, true, true, true, true, true, true, true, false, false, false, false, false, false, false, false, false, false] rfl rfl (one_of HT_.out (by kernel_rfl)) (by decide) (fun K hK => ?_)
            refine goes_ Try.func15 (by kernel_rfl) rfl #[.agg #[.int .i64 t505, .string t506, .int .i64 t507, .int .i64 t508, .string t509, .slice Ao33 t510.length co33, .slice Ao34 t513.length co34], .agg #[.int .i64 t539, .int .i64 t540, .slice Ao97 t541.length co97]] (by rfl) rfl rfl yb ?_
            with_reducible refine (pred_Eval.calls k2 t505 t506 t507 t508 t509 _ _ t510 _ _ t513 t539 t540 _ _ t541 t548 _ ?side1 ?side2 ?side3 ?side4 ?side5 ?side6 A70.out).mono ?_
            (case side1 => exact zC ((Kd.V_reads' HO_517005.out).2.2))
            (case side2 => exact (Kd.V_reads' HO_517005.out).2.1)
            (case side3 => exact zC ((Kd.V_reads' HO_517006.out).2.2))
            (case side4 => exact (Kd.V_reads' HO_517006.out).2.1)
            (case side5 => exact zC ((Kd.R_reads' HO543.out).2.2))
            (case side6 => exact (Kd.R_reads' HO543.out).2.1)
            rintro e w103 ⟨rfl, hb⟩
            refine ⟨_, rfl, ?_⟩
            replace HO_1 := zN HO_1 hb
            replace HO_465005 := zV HO_465005 hb
            replace HO_465006 := zV HO_465006 hb
            replace HO_502005 := zV HO_502005 hb
            replace HO_502006 := zV HO_502006 hb
            replace HO_517005 := zV HO_517005 hb
            replace HO_517006 := zV HO_517006 hb
            replace HL538_2 := zV HL538_2 hb
            replace HO543 := zR HO543 hb
            replace BK464 := zK BK464 hb
            replace BK501 := zK BK501 hb
            replace BK516 := zK BK516 hb
            replace BK544 := zK BK544 hb
            replace HB := zM (below_step mZ hb)
            (try clear hb)
            (try clear hb2)
            (try clear hk)
            (try clear hi)
            refine hK.out _ _ (zI7 BK464 (zI3 BK544 (zI7 BK501 (zJ7 BK516)))) (fun hHeld => ?_)
            clear hK K
            refine norm_ (a' := ?_) ?_ ?_
            rotate_left
            ·show Act.put _ (some 69) _ = _
             simp only [Act.put, List.setIfInBounds_toArray, List.set_cons_zero, List.set_cons_succ, i64_w, i32_w]
             rfl
            refine pure_ (i := 14) (N := some 70) (v := ?_) (a' := ?_) #[true, true, true, true, true, true, true, true, true, true, true, true, true, true, true, false, false, false, false, false, false, false, false, false] rfl rfl (any_of HT_.out (by kernel_rfl)) (fun _ _ _ h => h) (Or.inl ⟨by rfl, ?_⟩) ?_ ?_
            rotate_left
            ·intro w'
             go_simp
             with_reducible rfl
            rotate_left
            ·simp only [Act.put, List.setIfInBounds_toArray, List.set_cons_zero, List.set_cons_succ, i64_w, i32_w]
             rfl
            refine pure_ (i := 15) (N := some 71) (v := ?_) (a' := ?_) #[true, true, true, true, true, true, true, true, true, true, true, true, true, true, true, true, false, false, false, false, false, false, false, false] rfl rfl (any_of HT_.out (by kernel_rfl)) (fun _ _ _ h => h) (Or.inl ⟨by rfl, ?_⟩) ?_ ?_
            rotate_left
            ·intro w'
             go_simp
             with_reducible rfl
            rotate_left
            ·simp only [Act.put, List.setIfInBounds_toArray, List.set_cons_zero, List.set_cons_succ, i64_w, i32_w]
             rfl
            refine pure_ (i := 16) (N := some 72) (v := ?_) (a' := ?_) #[true, true, true, true, true, true, true, true, true, true, true, true, true, true, true, true, true, false, false, false, false, false, false, false] rfl rfl (any_of HT_.out (by kernel_rfl)) (fun _ _ _ h => h) (Or.inl ⟨by rfl, ?_⟩) ?_ ?_
            rotate_left
            ·intro w'
             go_simp
             with_reducible rfl
            rotate_left
            ·simp only [Act.put, List.setIfInBounds_toArray, List.set_cons_zero, List.set_cons_succ, i64_w, i32_w]
             rfl
            refine pure_ (i := 17) (N := some 73) (v := ?_) (a' := ?_) #[true, true, true, true, true, true, true, true, true, true, true, true, true, true, true, true, true, true, false, false, false, false, false, false] rfl rfl (any_of HT_.out (by kernel_rfl)) (fun _ _ _ h => h) (Or.inl ⟨by rfl, ?_⟩) ?_ ?_
            rotate_left
            ·intro w'
             go_simp
             with_reducible rfl
            rotate_left
            ·simp only [Act.put, List.setIfInBounds_toArray, List.set_cons_zero, List.set_cons_succ, i64_w, i32_w]
             rfl
            refine pure_ (i := 18) (N := some 74) (v := ?_) (a' := ?_) #[true, true, true, true, true, true, true, true, true, true, true, true, true, true, true, true, true, true, true, false, false, false, false, false] rfl rfl (any_of HT_.out (by kernel_rfl)) (fun _ _ _ h => h) (Or.inl ⟨by rfl, ?_⟩) ?_ ?_
            rotate_left
            ·intro w'
             go_simp
             with_reducible rfl
            rotate_left
            ·simp only [Act.put, List.setIfInBounds_toArray, List.set_cons_zero, List.set_cons_succ, i64_w, i32_w]
             rfl
            refine pure_ (i := 19) (N := some 75) (v := undef) (a' := ?_) #[true, true, true, true, true, true, true, true, true, true, true, true, true, true, true, true, true, true, true, true, false, false, false, false] rfl rfl (any_of HT_.out (by kernel_rfl)) (fun _ _ _ h => h) (Or.inr ⟨by rfl, rfl⟩) ?_ ?_
            rotate_left
            ·simp only [Act.put, List.setIfInBounds_toArray, List.set_cons_zero, List.set_cons_succ, i64_w, i32_w]
             rfl
            refine pure_ (i := 20) (N := some 76) (v := undef) (a' := ?_) #[true, true, true, true, true, true, true, true, true, true, true, true, true, true, true, true, true, true, true, true, true, false, false, false] rfl rfl (any_of HT_.out (by kernel_rfl)) (fun _ _ _ h => h) (Or.inr ⟨by rfl, rfl⟩) ?_ ?_
            rotate_left
            ·simp only [Act.put, List.setIfInBounds_toArray, List.set_cons_zero, List.set_cons_succ, i64_w, i32_w]
             rfl
            refine pure_ (i := 21) (N := some 77) (v := undef) (a' := ?_) #[true, true, true, true, true, true, true, true, true, true, true, true, true, true, true, true, true, true, true, true, true, true, false, false] rfl rfl (any_of HT_.out (by kernel_rfl)) (fun _ _ _ h => h) (Or.inr ⟨by rfl, rfl⟩) ?_ ?_
            rotate_left
            ·simp only [Act.put, List.setIfInBounds_toArray, List.set_cons_zero, List.set_cons_succ, i64_w, i32_w]
             rfl
            refine pure_ (i := 22) (N := some 78) (v := ?_) (a' := ?_) #[true, true, true, true, true, true, true, true, true, true, true, true, true, true, true, true, true, true, true, true, true, true, true, false] rfl rfl (any_of HT_.out (by kernel_rfl)) (fun _ _ _ h => h) (Or.inl ⟨by rfl, ?_⟩) ?_ ?_
            rotate_left
            ·intro w'
             go_simp
             with_reducible rfl
            rotate_left
            ·simp only [Act.put, List.setIfInBounds_toArray, List.set_cons_zero, List.set_cons_succ, i64_w, i32_w]
             rfl
            refine pure_ (i := 23) (N := some 79) (v := ?_) (a' := ?_) #[true, true, true, true, true, true, true, true, true, true, true, true, true, true, true, true, true, true, true, true, true, true, true, true] rfl rfl (any_of HT_.out (by kernel_rfl)) (fun _ _ _ h => h) (Or.inl ⟨by rfl, ?_⟩) ?_ ?_
            rotate_left
            ·intro w'
             go_simp
             with_reducible rfl
            rotate_left
            ·simp only [Act.put, List.setIfInBounds_toArray, List.set_cons_zero, List.set_cons_succ, i64_w, i32_w]
             rfl
            refine done_ (done_of HT_.out (by kernel_rfl)) ?_
            try go_wp2
            go_roundg k2
            case measure => have := HJ7.out; have := HK2.out; omega
            case rel => exact ⟨(wrap64 (x8_2 + 1)), ya, H', ⟨by have := HJ7.out; have := HK2.out; omega⟩, ⟨yN HO_1 (fun _ hk => ⟨hk.2.1, ⟨hk.2.2.1, hk.2.2.2.1⟩⟩)⟩, ⟨yV HO_465005 (fun _ hk => ⟨hk.1, ⟨hk.2.2.1, ⟨hk.2.2.2.1, hk.2.2.2.2.1⟩⟩⟩)⟩, ⟨yV HO_465006 (fun _ hk => ⟨hk.1, ⟨hk.2.2.1, ⟨hk.2.2.2.1, hk.2.2.2.2.1⟩⟩⟩)⟩, ⟨yV HO_502005 (fun _ hk => ⟨hk.1, ⟨hk.2.2.1, ⟨hk.2.2.2.1, hk.2.2.2.2.1⟩⟩⟩)⟩, ⟨yV HO_502006 (fun _ hk => ⟨hk.1, ⟨hk.2.2.1, ⟨hk.2.2.2.1, hk.2.2.2.2.1⟩⟩⟩)⟩, ⟨yV HO_517005 (fun _ hk => ⟨hk.1, ⟨hk.2.2.1, ⟨hk.2.2.2.1, hk.2.2.2.2.1⟩⟩⟩)⟩, ⟨yV HO_517006 (fun _ hk => ⟨hk.1, ⟨hk.2.2.1, ⟨hk.2.2.2.1, hk.2.2.2.2.1⟩⟩⟩)⟩, ⟨mK BK464.out⟩, ⟨mK BK501.out⟩, ⟨mK BK516.out⟩, ⟨mZ⟩⟩
        ·rw [if_neg c64] at H
         exact absurd H (by simp)
       ·rw [if_neg c63] at H
        have c63b0 : decide (x8_2 < (t534.length : Int)) = false := decide_eq_false c63
        clear c63
        replace H := Option.bind_eq_some_iff.mp H
        obtain ⟨t537, A1040, H⟩ := H
        replace H : (some t537) = some r := H
        have A104 := zM A1040
        clear A1040
        obtain rfl := Option.some.inj H
        obtain ⟨Ao105, co105, eo105⟩ := Kd.N_slice HO_1.out
        subst eo105
        go_wp2_with (first | ((with_reducible refine gate_callee (f := 11) rfl ?_); refine goesL_ (some 80) rfl rfl Try.func11 (by kernel_rfl) rfl #[] rfl yb ?_; (with_reducible refine (columbariumlaw13_known.calls k2  t537 _ A104.out).mono ?_); rintro e w106 ⟨rfl, hb⟩; refine ⟨_, rfl, ?_⟩; replace HO_1 := zN HO_1 hb; replace HO_465005 := zV HO_465005 hb; replace HO_465006 := zV HO_465006 hb; replace HO_502005 := zV HO_502005 hb; replace HO_502006 := zV HO_502006 hb; replace HO_517005 := zV HO_517005 hb; replace HO_517006 := zV HO_517006 hb; replace BK464 := zK BK464 hb; replace BK501 := zK BK501 hb; replace BK516 := zK BK516 hb; replace HB := zM (below_step mZ hb); (try clear hb)))
        go_ret
        exact ⟨by first | rfl | (simp [errW_none, errW_some] <;> rfl) | (simp [*, errW_none, errW_some] <;> rfl), mZ⟩
 ·replace c5 := Bool.eq_false_iff.mpr c5
  subst c5
  have H1 : ((pred_Normal.f k t465 t466 t467 t468 t469 t470 t473).bind fun bt477 => ((columbariumkeep_Pred.f k bt477.1 bt477.2.1 bt477.2.2.1 bt477.2.2.2.1 bt477.2.2.2.2.1 bt477.2.2.2.2.2.1 bt477.2.2.2.2.2.2 t465 t466 t467 t468 t469 t470 t473).bind fun t488 => (if t488 = true then ((columbariumlaw13_known.f k).bind fun t489 => (some t489)) else (some false)))) = some r := by rw [if_neg (show ¬ (false = true) by decide)] at H; exact H
  clear H
  have H := H1
  clear H1
  replace H := Option.bind_eq_some_iff.mp H
  obtain ⟨⟨t477, t478, t479, t480, t481, t482, t485⟩, A1070, H⟩ := H
  replace H : ((columbariumkeep_Pred.f k t477 t478 t479 t480 t481 t482 t485 t465 t466 t467 t468 t469 t470 t473).bind fun t488 => (if t488 = true then ((columbariumlaw13_known.f k).bind fun t489 => (some t489)) else (some false))) = some r := H
  have A107 := zM A1070
  clear A1070
  replace H := Option.bind_eq_some_iff.mp H
  obtain ⟨t488, A1080, H⟩ := H
  replace H : (if t488 = true then ((columbariumlaw13_known.f k).bind fun t489 => (some t489)) else (some false)) = some r := H
  have A108 := zM A1080
  clear A1080
  by_cases c109 : t488 = true
  ·subst c109
   have H1 : ((columbariumlaw13_known.f k).bind fun t489 => (some t489)) = some r := by rw [if_pos rfl] at H; exact H
   clear H
   have H := H1
   clear H1
   replace H := Option.bind_eq_some_iff.mp H
   obtain ⟨t489, A1100, H⟩ := H
   replace H : (some t489) = some r := H
   have A110 := zM A1100
   clear A1100
   obtain rfl := Option.some.inj H
   go_enter Try.func3, Try.ntmps3
   try go_wp2_with (first | ((with_reducible refine gate_dst (N := 2) rfl ?_); refine box_event ?hg (N := 2) ?hd (cs := #[.int .i64 a0_0, .string a0_1, .int .i64 a0_2, .int .i64 a0_3, .string a0_4, .slice A0_5 l0_5.length c0_5, .slice A0_6 l0_6.length c0_6]) (t := 25) ?hr ?_; (case hd => rfl); (case hg => rfl); (case hr => first | (go_simp; done) | (go_simp; rfl)); intro gb464 hg w111 hbox hb; have BK464 := zM (hbox); have GW464 := zM ((by rw [hg]; exact (below_size (mB HB.out)) : w.heap.size ≤ gb464)); replace HB := zM (below_step (mB HB.out) hb); have GE464 := GW464; clear hb hbox hg; obtain ⟨hcz112_0, hcz112_1, hcz112_2, hcz112_3, hcz112_4, hcz112_5, hcz112_6, hfz112_0, hfz112_1, hfz112_2, hfz112_3, hfz112_4, hfz112_5, hfz112_6⟩ := cells_7 BK464.out) | ((with_reducible refine gate_callee (f := 7) rfl ?_); refine goesL_ (some 11) rfl rfl Try.func7 (by kernel_rfl) rfl #[.agg #[.int .i64 a0_0, .string a0_1, .int .i64 a0_2, .int .i64 a0_3, .string a0_4, .slice A0_5 l0_5.length c0_5, .slice A0_6 l0_6.length c0_6], .int .i64 5] rfl yb ?_; (with_reducible refine (columbariumkeep_Cut.calls k a0_0 a0_1 a0_2 a0_3 a0_4 _ _ l0_5 _ _ l0_6 5 t465 t466 t467 t468 t469 t470 t473 _ ?side1 ?side2 ?side3 ?side4 A3.out).mono ?_); (case side1 => exact zC (Kd.C_below HR0_5.out HB.out)); (case side2 => first | exact HC0_5.out | exact Kd.V_mono HC0_5.out (fun k_ hk_ => by grind)); (case side3 => exact zC (Kd.C_below HR0_6.out HB.out)); (case side4 => first | exact HC0_6.out | exact Kd.V_mono HC0_6.out (fun k_ hk_ => by grind)); rintro e w113 ⟨v471, v474, rfl, ho0, ho1, hb⟩; refine ⟨_, rfl, ?_⟩; (try replace ho1 := Kd.S_N ho1); have HO472 := zM (Kd.R_lower ho0 (below_size mZ)); have HO475 := zM (Kd.N_lower (Kd.N_mono (ok' := fun k_ => some k_ ≠ (v471 : Value).ownBlock ∧ k_ ≠ gb464) (Kd.R_N (Kd.R_bound ho1)) (fun k_ hk_ => ⟨hk_.1, (Kd.freshB (mK BK464.out) k_ hk_.2.1)⟩)) (below_size mZ)); replace BK464 := zK BK464 hb; replace HB := zM (below_step mZ hb); (try clear hb); (try clear ho0); (try clear ho1); obtain ⟨hcz114_0, hcz114_1, hcz114_2, hcz114_3, hcz114_4, hcz114_5, hcz114_6, hfz114_0, hfz114_1, hfz114_2, hfz114_3, hfz114_4, hfz114_5, hfz114_6⟩ := cells_7 BK464.out; obtain ⟨Ao115, co115, eo115⟩ := Kd.R_slice HO472.out; subst eo115; obtain ⟨Ao116, co116, eo116⟩ := Kd.N_slice HO475.out; subst eo116) | ((with_reducible refine gate_callee (f := 8) rfl ?_); refine goesL_ (some 13) rfl rfl Try.func8 (by kernel_rfl) rfl #[.agg #[.int .i64 t465, .string t466, .int .i64 t467, .int .i64 t468, .string t469, .slice Ao115 t470.length co115, .slice Ao116 t473.length co116]] rfl yb ?_; (with_reducible refine (pred_Right.calls k t465 t466 t467 t468 t469 _ _ t470 _ _ t473 false _ ?side1 ?side2 ?side3 ?side4 A4.out).mono ?_); (case side1 => refine (Kd.R_reads' (e := 9) (base := w.heap.size) (ok := fun k_ => True) (n := t470.length) (c := co115) ?_).2.2; exact (by (with_reducible repeat (first | apply Kd.R_alloc | apply Kd.R_drewN | apply Kd.R_drew)); exact (Kd.R_mono (zgR (Kd.R_types HO472.out BK464.out (by decide))) (fun _ h_ => h_.1)))); (case side2 => exact (Kd.R_reads' HO472.out).2.1); (case side3 => refine (Kd.N_reads' (e := 25) (base := w.heap.size) (ok := fun k_ => (some k_ ≠ (.slice Ao115 t470.length co115 : Value).ownBlock ∧ k_ ≠ gb464)) (n := t473.length) (c := co116) ?_).2.2; exact (by (with_reducible repeat (first | apply Kd.N_alloc | apply Kd.N_drewN | apply Kd.N_drew)); exact (Kd.N_mono (zgN (Kd.N_mono HO475.out (fun k_ hk => (⟨hk, hk.2⟩ : _ ∧ k_ ≠ gb464)))) (fun _ h_ => h_.1)))); (case side4 => exact (Kd.N_reads' HO475.out).2.1); rintro e w117 ⟨rfl, hb⟩; refine ⟨_, rfl, ?_⟩; replace HO472 := zM (Kd.R_below (by (with_reducible repeat (first | apply Kd.R_alloc | apply Kd.R_drewN | apply Kd.R_drew)); exact (Kd.R_mono (zgR (Kd.R_types HO472.out BK464.out (by decide))) (fun _ h_ => h_.1))) hb); replace HO475 := zM (Kd.N_below (by (with_reducible repeat (first | apply Kd.N_alloc | apply Kd.N_drewN | apply Kd.N_drew)); exact (Kd.N_mono (zgN (Kd.N_mono HO475.out (fun k_ hk => (⟨hk, hk.2⟩ : _ ∧ k_ ≠ gb464)))) (fun _ h_ => h_.1))) hb); replace BK464 := zP7 BK464 hb; replace HB := zM (below_step mZ hb); (try clear hb)))
   replace HO472 := zM (Kd.R_drew HO472.out)
   replace HO475 := zM (Kd.N_drew HO475.out)
   replace BK464 := zM (blk_drew BK464.out)
   replace HB := zM (below_drew1 HB.out)
   refine start_ (n := 8) (S := fun w' => w'.cell? ⟨gb464, 0, none⟩ = some (.int .i64 t465) ∧ w'.cell? ⟨gb464, 1, none⟩ = some (.string t466) ∧ w'.cell? ⟨gb464, 2, none⟩ = some (.int .i64 t467) ∧ w'.cell? ⟨gb464, 3, none⟩ = some (.int .i64 t468) ∧ w'.cell? ⟨gb464, 4, none⟩ = some (.string t469) ∧ w'.cell? ⟨gb464, 5, none⟩ = some (.slice Ao115 t470.length co115) ∧ w'.cell? ⟨gb464, 6, none⟩ = some (.slice Ao116 t473.length co116)) (ds := []) #[false, false, false, false, false, false, false, false] (by kernel_rfl) rfl rfl (zJ7 BK464) (fun hHeld => ?_); refine with_tabW columbariumlaw13_PredNormal.tab3 columbariumlaw13_PredNormal.bits3 (fun HT_ HW_ => ?_)
   generalize w117.drew = w118 at HO472 HO475 BK464 HB hHeld ⊢
   refine take_ (i := 0) (N := some 15) (v := ?_) (a' := ?_) #[true, false, false, false, false, false, false, false] rfl rfl (take_ofW HT_.out HW_.out (by kernel_rfl)) (fun _ _ _ h => h) (Or.inl ⟨by rfl, ?_⟩) hHeld ?_ ?_
   rotate_left
   ·rintro w' ⟨s0, s1, s2, s3, s4, s5, s6⟩
    go_simp
    with_reducible rfl
   rotate_left
   ·simp only [Act.put, List.setIfInBounds_toArray, List.set_cons_zero, List.set_cons_succ, i64_w, i32_w]
    rfl
   refine take_ (i := 2) (N := some 17) (v := ?_) (a' := ?_) #[true, false, true, false, false, false, false, false] rfl rfl (take_ofW HT_.out HW_.out (by kernel_rfl)) (fun _ _ _ h => h) (Or.inl ⟨by rfl, ?_⟩) hHeld ?_ ?_
   rotate_left
   ·rintro w' ⟨s0, s1, s2, s3, s4, s5, s6⟩
    go_simp
    with_reducible rfl
   rotate_left
   ·simp only [Act.put, List.setIfInBounds_toArray, List.set_cons_zero, List.set_cons_succ, i64_w, i32_w]
    rfl
   refine one_ (i := 1) (N := some 16) #[true, true, true, false, false, false, false, false] rfl rfl (one_of HT_.out (by kernel_rfl)) (by decide) (fun K hK => ?_)
   refine goes_ Try.func10 (by kernel_rfl) rfl #[.agg #[.int .i64 t465, .string t466, .int .i64 t467, .int .i64 t468, .string t469, .slice Ao115 t470.length co115, .slice Ao116 t473.length co116]] (by rfl) rfl rfl yb ?_
   with_reducible refine (pred_Normal.calls k t465 t466 t467 t468 t469 _ _ t470 _ _ t473 t477 t478 t479 t480 t481 t482 t485 _ ?side1 ?side2 ?side3 ?side4 A107.out).mono ?_
   (case side1 => exact zC ((Kd.R_reads' HO472.out).2.2))
   (case side2 => exact (Kd.R_reads' HO472.out).2.1)
   (case side3 => exact zC ((Kd.N_reads' HO475.out).2.2))
   (case side4 => exact (Kd.N_reads' HO475.out).2.1)
   rintro e w119 ⟨v483, v486, rfl, ho0, ho1, hb⟩
   refine ⟨_, rfl, ?_⟩
   have HO484 := zM (Kd.V_lower (Kd.V_mono (ok' := fun k_ => some k_ ≠ (.slice Ao115 t470.length co115 : Value).ownBlock ∧ some k_ ≠ (.slice Ao116 t473.length co116 : Value).ownBlock ∧ k_ ≠ gb464) ho0 (fun k_ hk_ => ⟨(Kd.fresh' (Kd.R_lt (mR HO472.out)) k_ hk_), (Kd.fresh' (Kd.N_lt (mN HO475.out)) k_ hk_), (Kd.freshB (mK BK464.out) k_ hk_)⟩)) (below_size mZ))
   have HO487 := zM (Kd.V_lower (Kd.V_mono (ok' := fun k_ => some k_ ≠ (.slice Ao115 t470.length co115 : Value).ownBlock ∧ some k_ ≠ (.slice Ao116 t473.length co116 : Value).ownBlock ∧ k_ ≠ gb464) ho1 (fun k_ hk_ => ⟨(Kd.fresh' (Kd.R_lt (mR HO472.out)) k_ hk_), (Kd.fresh' (Kd.N_lt (mN HO475.out)) k_ hk_), (Kd.freshB (mK BK464.out) k_ hk_)⟩)) (below_size mZ))
   replace HO472 := zR HO472 hb
   replace HO475 := zN HO475 hb
   replace BK464 := zK BK464 hb
   replace HB := zM (below_step mZ hb)
   (try clear hb)
   (try clear hb2)
   (try clear hk)
   (try clear hi)
   (try clear ho0)
   (try clear ho1)
   obtain ⟨Ao120, co120, eo120⟩ := Kd.V_slice HO484.out
   (first | subst eo120 | (injection eo120 with f1_ f2_ f3_; have f4_ := f1_.symm; have f5_ := f3_.symm; clear f1_ f2_ f3_; subst f4_; subst f5_))
   obtain ⟨Ao121, co121, eo121⟩ := Kd.V_slice HO487.out
   (first | subst eo121 | (injection eo121 with f1_ f2_ f3_; have f4_ := f1_.symm; have f5_ := f3_.symm; clear f1_ f2_ f3_; subst f4_; subst f5_))
   refine hK.out _ _ (zJ7 BK464) (fun hHeld => ?_)
   clear hK K
   refine norm_ (a' := ?_) ?_ ?_
   rotate_left
   ·show Act.put _ (some 16) _ = _
    simp only [Act.put, List.setIfInBounds_toArray, List.set_cons_zero, List.set_cons_succ, i64_w, i32_w]
    rfl
   refine one_ (i := 3) (N := some 18) #[true, true, true, true, false, false, false, false] rfl rfl (one_of HT_.out (by kernel_rfl)) (by decide) (fun K hK => ?_)
   refine goes_ Try.func9 (by kernel_rfl) rfl #[.agg #[.int .i64 t477, .string t478, .int .i64 t479, .int .i64 t480, .string t481, .slice Ao120 t482.length co120, .slice Ao121 t485.length co121], .agg #[.int .i64 t465, .string t466, .int .i64 t467, .int .i64 t468, .string t469, .slice Ao115 t470.length co115, .slice Ao116 t473.length co116]] (by rfl) rfl rfl yb ?_
   with_reducible refine (columbariumkeep_Pred.calls k t477 t478 t479 t480 t481 _ _ t482 _ _ t485 t465 t466 t467 t468 t469 _ _ t470 _ _ t473 true _ ?side1 ?side2 ?side3 ?side4 ?side5 ?side6 ?side7 ?side8 A108.out).mono ?_
   (case side1 => exact zC ((Kd.V_reads' HO484.out).2.2))
   (case side2 => exact (Kd.V_reads' HO484.out).2.1)
   (case side3 => exact zC ((Kd.V_reads' HO487.out).2.2))
   (case side4 => exact (Kd.V_reads' HO487.out).2.1)
   (case side5 => exact zC ((Kd.R_reads' HO472.out).2.2))
   (case side6 => exact (Kd.R_reads' HO472.out).2.1)
   (case side7 => exact zC ((Kd.N_reads' HO475.out).2.2))
   (case side8 => exact (Kd.N_reads' HO475.out).2.1)
   rintro e w122 ⟨rfl, hb⟩
   refine ⟨_, rfl, ?_⟩
   replace HO472 := zR HO472 hb
   replace HO475 := zN HO475 hb
   replace HO484 := zV HO484 hb
   replace HO487 := zV HO487 hb
   replace BK464 := zK BK464 hb
   replace HB := zM (below_step mZ hb)
   (try clear hb)
   (try clear hb2)
   (try clear hk)
   (try clear hi)
   refine hK.out _ _ (zJ7 BK464) (fun hHeld => ?_)
   clear hK K
   refine norm_ (a' := ?_) ?_ ?_
   rotate_left
   ·show Act.put _ (some 18) _ = _
    simp only [Act.put, List.setIfInBounds_toArray, List.set_cons_zero, List.set_cons_succ, i64_w, i32_w]
    rfl
   refine pure_ (i := 4) (N := some 19) (v := ?_) (a' := ?_) #[true, true, true, true, true, false, false, false] rfl rfl (any_of HT_.out (by kernel_rfl)) (fun _ _ _ h => h) (Or.inl ⟨by rfl, ?_⟩) ?_ ?_
   rotate_left
   ·intro w'
    go_simp
    with_reducible rfl
   rotate_left
   ·simp only [Act.put, List.setIfInBounds_toArray, List.set_cons_zero, List.set_cons_succ, i64_w, i32_w]
    rfl
   refine one_ (i := 5) (N := some 20) #[true, true, true, true, true, true, false, false] rfl rfl (one_of HT_.out (by kernel_rfl)) (by decide) (fun K hK => ?_)
   refine goes_ Try.func11 (by kernel_rfl) rfl #[] (by rfl) rfl rfl yb ?_
   with_reducible refine (columbariumlaw13_known.calls k  t489 _ A110.out).mono ?_
   rintro e w123 ⟨rfl, hb⟩
   refine ⟨_, rfl, ?_⟩
   replace HO472 := zR HO472 hb
   replace HO475 := zN HO475 hb
   replace HO484 := zV HO484 hb
   replace HO487 := zV HO487 hb
   replace BK464 := zK BK464 hb
   replace HB := zM (below_step mZ hb)
   (try clear hb)
   (try clear hb2)
   (try clear hk)
   (try clear hi)
   refine hK.out _ _ (zJ7 BK464) (fun hHeld => ?_)
   clear hK K
   refine norm_ (a' := ?_) ?_ ?_
   rotate_left
   ·show Act.put _ (some 20) _ = _
    simp only [Act.put, List.setIfInBounds_toArray, List.set_cons_zero, List.set_cons_succ, i64_w, i32_w]
    rfl
   refine pure_ (i := 6) (N := some 21) (v := ?_) (a' := ?_) #[true, true, true, true, true, true, true, false] rfl rfl (any_of HT_.out (by kernel_rfl)) (fun _ _ _ h => h) (Or.inl ⟨by rfl, ?_⟩) ?_ ?_
   rotate_left
   ·intro w'
    go_simp
    with_reducible rfl
   rotate_left
   ·simp only [Act.put, List.setIfInBounds_toArray, List.set_cons_zero, List.set_cons_succ, i64_w, i32_w]
    rfl
   refine pure_ (i := 7) (N := some 4) (v := ?_) (a' := ?_) #[true, true, true, true, true, true, true, true] rfl rfl (any_of HT_.out (by kernel_rfl)) (fun _ _ _ h => h) (Or.inl ⟨by rfl, ?_⟩) ?_ ?_
   rotate_left
   ·intro w'
    go_simp
    with_reducible rfl
   rotate_left
   ·simp only [Act.put, List.setIfInBounds_toArray, List.set_cons_zero, List.set_cons_succ, i64_w, i32_w]
    rfl
   refine done_ (done_of HT_.out (by kernel_rfl)) ?_
   try go_wp2
   go_ret
   exact ⟨by first | rfl | (simp [errW_none, errW_some] <;> rfl) | (simp [*, errW_none, errW_some] <;> rfl), mZ⟩
  ·replace c109 := Bool.eq_false_iff.mpr c109
   subst c109
   have H1 : (some false) = some r := by rw [if_neg (show ¬ (false = true) by decide)] at H; exact H
   clear H
   have H := H1
   clear H1
   exact absurd ((Option.some.inj H).trans hrt_.out) (by decide)
/-- What may be read, of a struct of the type 25. -/
inductive ok25 : S25 → Prop where
 | mk {x : S25} (h0 : (Lit.int .i64 x.f0).wf = true) (h1 : x.f1.size ≤ maxLen) (h2 : (Lit.int .i64 x.f2).wf = true) (h3 : (Lit.int .i64 x.f3).wf = true) (h4 : x.f4.size ≤ maxLen) (h5 : (x.f5.length ≤ maxLen ∧ ∀ x_ ∈ x.f5, x_.size ≤ maxLen)) (h6 : x.f6.length ≤ maxLen) (g6 : ∀ x_ ∈ x.f6, ok25 x_) : ok25 x
/-- What may be read, of a struct of the type 52. -/
def ok52 (x : S52) : Prop := x.f0.size ≤ maxLen ∧ (Lit.int .i64 x.f1).wf = true ∧ (Lit.int .i64 x.f2).wf = true ∧ x.f3.size ≤ maxLen
/-- What may be read, of a struct of the type 36. -/
def ok36 (x : S36) : Prop := (Lit.int .i64 x.f0).wf = true ∧ (Lit.int .i64 x.f1).wf = true ∧ (x.f2.length ≤ maxLen ∧ ∀ x_ ∈ x.f2, ok52 x_)

/-- THE ONE PURE STATEMENT of columbariumlaw13_PredNormal: yours. -/
def columbariumlaw13_PredNormal.Pure : Prop := ∀ (a0_0 : Int) (a0_1 : ByteArray) (a0_2 : Int) (a0_3 : Int) (a0_4 : ByteArray) (l0_5 : List ByteArray) (l0_6 : List (S25)) (l1 : List (S36)), (Lit.int .i64 a0_0).wf = true → a0_1.size ≤ maxLen → (Lit.int .i64 a0_2).wf = true → (Lit.int .i64 a0_3).wf = true → a0_4.size ≤ maxLen → (l0_5.length ≤ maxLen ∧ ∀ x_ ∈ l0_5, x_.size ≤ maxLen) → (l0_6.length ≤ maxLen ∧ ∀ x_ ∈ l0_6, ok25 x_) → l1.length ≤ maxLen → (∀ x ∈ l1, ok36 x ∧ x.f2.length * 48 ≤ 140737488351232) → ∃ k, columbariumlaw13_PredNormal.f k a0_0 a0_1 a0_2 a0_3 a0_4 l0_5 l0_6 l1 = some true
theorem columbariumlaw13_PredNormal.walk (P : columbariumlaw13_PredNormal.Pure) (a0_0 : Int) (a0_1 : ByteArray) (a0_2 : Int) (a0_3 : Int) (a0_4 : ByteArray) (A0_5 : Option Addr) (c0_5 : Nat) (l0_5 : List ByteArray) (A0_6 : Option Addr) (c0_6 : Nat) (l0_6 : List (S25)) (a1 : Option Addr) (cap1 : Nat) (l1 : List (S36)) (w : World) (ho0_0 : (Lit.int .i64 a0_0).wf = true) (ho0_1 : a0_1.size ≤ maxLen) (ho0_2 : (Lit.int .i64 a0_2).wf = true) (ho0_3 : (Lit.int .i64 a0_3).wf = true) (ho0_4 : a0_4.size ≤ maxLen) (hr0_5 : Kd.C Kd.string w A0_5 l0_5.length l0_5) (hc0_5 : l0_5.length ≤ c0_5) (ho0_5 : (l0_5.length ≤ maxLen ∧ ∀ x_ ∈ l0_5, x_.size ≤ maxLen)) (hr0_6 : Kd.C k25 w A0_6 l0_6.length l0_6) (hc0_6 : l0_6.length ≤ c0_6) (ho0_6 : (l0_6.length ≤ maxLen ∧ ∀ x_ ∈ l0_6, ok25 x_)) (hr1 : Kd.C k36 w a1 l1.length l1) (hc1 : l1.length ≤ cap1) (hm1 : l1.length ≤ maxLen) (hw1 : ∀ x ∈ l1, ok36 x ∧ x.f2.length * 48 ≤ 140737488351232) :
  Calls Try.prog 3 #[.agg #[.int .i64 a0_0, .string a0_1, .int .i64 a0_2, .int .i64 a0_3, .string a0_4, .slice A0_5 l0_5.length c0_5, .slice A0_6 l0_6.length c0_6], .slice a1 l1.length cap1] w fun e w' => e = .returned (.bool true) ∧ Below w.heap.size w w' := by
 obtain ⟨k, h⟩ := P a0_0 a0_1 a0_2 a0_3 a0_4 l0_5 l0_6 l1 ho0_0 ho0_1 ho0_2 ho0_3 ho0_4 ho0_5 ho0_6 hm1 hw1
 refine (columbariumlaw13_PredNormal.calls k a0_0 a0_1 a0_2 a0_3 a0_4 _ _ l0_5 _ _ l0_6 _ _ l1 true w hr0_5 hc0_5 hr0_6 hc0_6 hr1 hc1 ⟨rfl⟩ h).mono ?_
 rintro e w' ⟨rfl, hd⟩
 exact ⟨rfl, hd⟩

end Go.Proofs.Ytalpcnomfebdiaa.QPredNormal
