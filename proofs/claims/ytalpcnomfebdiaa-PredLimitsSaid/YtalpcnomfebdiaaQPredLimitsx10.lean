-- Written by a program of this session (wip/myprint.py): the machine's side of a law
import Derived.Test.YtalpcnomfebdiaaQPredLimitsx0
import Derived.Test.YtalpcnomfebdiaaQPredLimitsx6
import Derived.Test.YtalpcnomfebdiaaQPredLimitsx8
import Derived.Test.YtalpcnomfebdiaaQPredLimitsx9
namespace Go.Proofs.Ytalpcnomfebdiaa.QPredLimits
open Go.RowKit Go.Proofs.YtalpcnomfebdiaaW.PrintWords Go.Proofs.YtalpcnomfebdiaaW.PrintLast Go.Proofs.YtalpcnomfebdiaaW.PrintMore
attribute [local go_sem] max2_int min2_int max_two min_two max_three min_three max_four min_four   -- for this text's walks alone
set_option linter.unusedVariables false
set_option linter.unusedSimpArgs false

/-! ### columbariumlaw13_known: function 11 -/
def columbariumlaw13_known.f (k : Nat)  : Option (Bool) := (columbariumlaw13_null.f (⟨#[120]⟩ : ByteArray)).bind fun bt272 => ((columbariumlaw13_null.f (⟨#[121]⟩ : ByteArray)).bind fun bt283 => ((columbariumlaw13_nots.f k bt283.1 bt283.2.1 bt283.2.2.1 bt283.2.2.2.1 bt283.2.2.2.2.1 bt283.2.2.2.2.2.1 bt283.2.2.2.2.2.2 1).bind fun bt294 => ((columbariumlaw13_nots.f k 1 (⟨#[]⟩ : ByteArray) 0 0 (⟨#[]⟩ : ByteArray) ([] : List ByteArray) (([(⟨bt272.1, bt272.2.1, bt272.2.2.1, bt272.2.2.2.1, bt272.2.2.2.2.1, bt272.2.2.2.2.2.1, bt272.2.2.2.2.2.2⟩ : S25), (⟨bt294.1, bt294.2.1, bt294.2.2.1, bt294.2.2.2.1, bt294.2.2.2.2.1, bt294.2.2.2.2.2.1, bt294.2.2.2.2.2.2⟩ : S25)] : List (S25))) 1).bind fun bt308 => ((pred_Normal.f k bt308.1 bt308.2.1 bt308.2.2.1 bt308.2.2.2.1 bt308.2.2.2.2.1 bt308.2.2.2.2.2.1 bt308.2.2.2.2.2.2).bind fun bt319 => ((columbariumlaw13_null.f (⟨#[120]⟩ : ByteArray)).bind fun bt331 => ((columbariumlaw13_nots.f k bt331.1 bt331.2.1 bt331.2.2.1 bt331.2.2.2.1 bt331.2.2.2.2.1 bt331.2.2.2.2.2.1 bt331.2.2.2.2.2.2 1).bind fun bt342 => ((columbariumlaw13_null.f (⟨#[121]⟩ : ByteArray)).bind fun bt353 => ((columbariumkeep_Pred.f k bt319.1 bt319.2.1 bt319.2.2.1 bt319.2.2.2.1 bt319.2.2.2.2.1 bt319.2.2.2.2.2.1 bt319.2.2.2.2.2.2 2 (⟨#[]⟩ : ByteArray) 0 0 (⟨#[]⟩ : ByteArray) ([] : List ByteArray) (([(⟨bt342.1, bt342.2.1, bt342.2.2.1, bt342.2.2.2.1, bt342.2.2.2.2.1, bt342.2.2.2.2.2.1, bt342.2.2.2.2.2.2⟩ : S25), (⟨bt353.1, bt353.2.1, bt353.2.2.1, bt353.2.2.2.1, bt353.2.2.2.2.1, bt353.2.2.2.2.2.1, bt353.2.2.2.2.2.2⟩ : S25)] : List (S25)))).bind fun t367 => (if t367 = true then ((columbariumkeep_Everything.f).bind fun bt368 => ((pred_Eval.f k bt368.1 bt368.2.1 bt368.2.2.1 bt368.2.2.2.1 bt368.2.2.2.2.1 bt368.2.2.2.2.2.1 bt368.2.2.2.2.2.2 0 0 ([] : List (S52))).bind fun t379 => (if t379 = true then ((pred_Eval.f k 2 (⟨#[]⟩ : ByteArray) 0 0 (⟨#[]⟩ : ByteArray) ([] : List ByteArray) ([] : List (S25)) 0 0 ([] : List (S52))).bind fun t380 => (some (!t380))) else (some false)))) else (some false))))))))))
theorem columbariumlaw13_known.mono : ∀ k, LeO (columbariumlaw13_known.f k ) (columbariumlaw13_known.f (k + 1) ) := by
 intro  k
 unfold columbariumlaw13_known.f
 repeat' first
   | (with_reducible exact columbariumkeep_Pred.mono _ _ _ _ _ _ _ _ _ _ _ _ _ _ _)
   | (with_reducible exact columbariumlaw13_nots.mono _ _ _ _ _ _ _ _ _)
   | (with_reducible exact pred_Eval.mono _ _ _ _ _ _ _ _ _ _ _)
   | (with_reducible exact pred_Normal.mono _ _ _ _ _ _ _ _)
   | (with_reducible exact LeO.refl _)
   | (with_reducible exact LeO.none _)
   | (with_reducible refine LeO.ite ?_ ?_)
   | (with_reducible refine LeO.bind ?_ (fun _ => ?_))
   | exact columbariumkeep_Pred.mono _ _ _ _ _ _ _ _ _ _ _ _ _ _ _
   | exact columbariumlaw13_nots.mono _ _ _ _ _ _ _ _ _
   | exact pred_Eval.mono _ _ _ _ _ _ _ _ _ _ _
   | exact pred_Normal.mono _ _ _ _ _ _ _ _
   | exact LeO.none _
   | refine LeO.ite ?_ ?_
   | refine LeO.bind ?_ (fun _ => ?_)
theorem columbariumlaw13_known_true (k : Nat) (r : Bool) (h : columbariumlaw13_known.f k = some r) : r = true := by
 have h1 : columbariumlaw13_known.f 60 = some true := by decide +kernel
 rcases Nat.le_total 60 k with hk | hk
 ·have h2 := at_rounds (fun k => columbariumlaw13_known.mono k) hk h1
  rw [h2] at h
  exact (Option.some.inj h).symm
 ·have h2 := at_rounds (fun k => columbariumlaw13_known.mono k) hk h
  rw [h1] at h2
  exact (Option.some.inj h2).symm

def columbariumlaw13_known.T2 : Bool × List (List Nat × List Nat) := (true, [([], []), ([], []), ([1, 1], [1]), ([2], []), ([2, 3], [2, 3]), ([4], [4]), ([0, 5, 3], [0, 5]), ([6, 6], [6]), ([7, 7], [7]), ([7], [7]), ([8, 9, 8, 7], [7, 8, 9]), ([7, 10], [7, 10]), ([11, 10], [11]), ([12], [12]), ([12], [12]), ([13, 14, 12, 12], [12, 13, 14]), ([15, 12], [12, 15]), ([12, 16], [12, 16]), ([17, 15, 0, 1, 2, 3, 4, 5, 6, 7, 8, 9, 10, 11, 12, 13, 14, 15, 16, 17], [17])])
def columbariumlaw13_known.B2 : List Nat := [0, 0, 2, 6, 14, 30, 63, 127, 255, 255, 1023, 2047, 4095, 8191, 8191, 32767, 65535, 131071, 262143]
theorem columbariumlaw13_known.tab2 : rtab .any (opsOf Try.f11 2) = columbariumlaw13_known.T2 := by kernel_rfl
theorem columbariumlaw13_known.bits2 : waitsOk columbariumlaw13_known.T2.2 columbariumlaw13_known.B2 = true := by kernel_rfl
set_option maxHeartbeats 8000000 in
set_option maxRecDepth 100000 in
theorem columbariumlaw13_known.calls (k : Nat)  (r : Bool) (w : World) (h : columbariumlaw13_known.f k  = some r) :
  Calls Try.prog 11 #[] w fun e w' => e = .returned (.bool r) ∧ Below w.heap.size w w' := by
 have hu25 := Try.underlying25
 have hu36 := Try.underlying36
 have HB := Aside0.mk (Below.refl w.heap.size w)
 have hrt_ : Aside0 (r = true) := ⟨columbariumlaw13_known_true k r h⟩
 have H : ((columbariumlaw13_null.f (⟨#[120]⟩ : ByteArray)).bind fun bt272 => ((columbariumlaw13_null.f (⟨#[121]⟩ : ByteArray)).bind fun bt283 => ((columbariumlaw13_nots.f k bt283.1 bt283.2.1 bt283.2.2.1 bt283.2.2.2.1 bt283.2.2.2.2.1 bt283.2.2.2.2.2.1 bt283.2.2.2.2.2.2 1).bind fun bt294 => ((columbariumlaw13_nots.f k 1 (⟨#[]⟩ : ByteArray) 0 0 (⟨#[]⟩ : ByteArray) ([] : List ByteArray) (([(⟨bt272.1, bt272.2.1, bt272.2.2.1, bt272.2.2.2.1, bt272.2.2.2.2.1, bt272.2.2.2.2.2.1, bt272.2.2.2.2.2.2⟩ : S25), (⟨bt294.1, bt294.2.1, bt294.2.2.1, bt294.2.2.2.1, bt294.2.2.2.2.1, bt294.2.2.2.2.2.1, bt294.2.2.2.2.2.2⟩ : S25)] : List (S25))) 1).bind fun bt308 => ((pred_Normal.f k bt308.1 bt308.2.1 bt308.2.2.1 bt308.2.2.2.1 bt308.2.2.2.2.1 bt308.2.2.2.2.2.1 bt308.2.2.2.2.2.2).bind fun bt319 => ((columbariumlaw13_null.f (⟨#[120]⟩ : ByteArray)).bind fun bt331 => ((columbariumlaw13_nots.f k bt331.1 bt331.2.1 bt331.2.2.1 bt331.2.2.2.1 bt331.2.2.2.2.1 bt331.2.2.2.2.2.1 bt331.2.2.2.2.2.2 1).bind fun bt342 => ((columbariumlaw13_null.f (⟨#[121]⟩ : ByteArray)).bind fun bt353 => ((columbariumkeep_Pred.f k bt319.1 bt319.2.1 bt319.2.2.1 bt319.2.2.2.1 bt319.2.2.2.2.1 bt319.2.2.2.2.2.1 bt319.2.2.2.2.2.2 2 (⟨#[]⟩ : ByteArray) 0 0 (⟨#[]⟩ : ByteArray) ([] : List ByteArray) (([(⟨bt342.1, bt342.2.1, bt342.2.2.1, bt342.2.2.2.1, bt342.2.2.2.2.1, bt342.2.2.2.2.2.1, bt342.2.2.2.2.2.2⟩ : S25), (⟨bt353.1, bt353.2.1, bt353.2.2.1, bt353.2.2.2.1, bt353.2.2.2.2.1, bt353.2.2.2.2.2.1, bt353.2.2.2.2.2.2⟩ : S25)] : List (S25)))).bind fun t367 => (if t367 = true then ((columbariumkeep_Everything.f).bind fun bt368 => ((pred_Eval.f k bt368.1 bt368.2.1 bt368.2.2.1 bt368.2.2.2.1 bt368.2.2.2.2.1 bt368.2.2.2.2.2.1 bt368.2.2.2.2.2.2 0 0 ([] : List (S52))).bind fun t379 => (if t379 = true then ((pred_Eval.f k 2 (⟨#[]⟩ : ByteArray) 0 0 (⟨#[]⟩ : ByteArray) ([] : List ByteArray) ([] : List (S25)) 0 0 ([] : List (S52))).bind fun t380 => (some (!t380))) else (some false)))) else (some false))))))))))) = some r := h
 clear h
 replace H := Option.bind_eq_some_iff.mp H
 obtain ⟨⟨t272, t273, t274, t275, t276, t277, t280⟩, A10, H⟩ := H
 replace H : ((columbariumlaw13_null.f (⟨#[121]⟩ : ByteArray)).bind fun bt283 => ((columbariumlaw13_nots.f k bt283.1 bt283.2.1 bt283.2.2.1 bt283.2.2.2.1 bt283.2.2.2.2.1 bt283.2.2.2.2.2.1 bt283.2.2.2.2.2.2 1).bind fun bt294 => ((columbariumlaw13_nots.f k 1 (⟨#[]⟩ : ByteArray) 0 0 (⟨#[]⟩ : ByteArray) ([] : List ByteArray) (([(⟨t272, t273, t274, t275, t276, t277, t280⟩ : S25), (⟨bt294.1, bt294.2.1, bt294.2.2.1, bt294.2.2.2.1, bt294.2.2.2.2.1, bt294.2.2.2.2.2.1, bt294.2.2.2.2.2.2⟩ : S25)] : List (S25))) 1).bind fun bt308 => ((pred_Normal.f k bt308.1 bt308.2.1 bt308.2.2.1 bt308.2.2.2.1 bt308.2.2.2.2.1 bt308.2.2.2.2.2.1 bt308.2.2.2.2.2.2).bind fun bt319 => ((columbariumlaw13_null.f (⟨#[120]⟩ : ByteArray)).bind fun bt331 => ((columbariumlaw13_nots.f k bt331.1 bt331.2.1 bt331.2.2.1 bt331.2.2.2.1 bt331.2.2.2.2.1 bt331.2.2.2.2.2.1 bt331.2.2.2.2.2.2 1).bind fun bt342 => ((columbariumlaw13_null.f (⟨#[121]⟩ : ByteArray)).bind fun bt353 => ((columbariumkeep_Pred.f k bt319.1 bt319.2.1 bt319.2.2.1 bt319.2.2.2.1 bt319.2.2.2.2.1 bt319.2.2.2.2.2.1 bt319.2.2.2.2.2.2 2 (⟨#[]⟩ : ByteArray) 0 0 (⟨#[]⟩ : ByteArray) ([] : List ByteArray) (([(⟨bt342.1, bt342.2.1, bt342.2.2.1, bt342.2.2.2.1, bt342.2.2.2.2.1, bt342.2.2.2.2.2.1, bt342.2.2.2.2.2.2⟩ : S25), (⟨bt353.1, bt353.2.1, bt353.2.2.1, bt353.2.2.2.1, bt353.2.2.2.2.1, bt353.2.2.2.2.2.1, bt353.2.2.2.2.2.2⟩ : S25)] : List (S25)))).bind fun t367 => (if t367 = true then ((columbariumkeep_Everything.f).bind fun bt368 => ((pred_Eval.f k bt368.1 bt368.2.1 bt368.2.2.1 bt368.2.2.2.1 bt368.2.2.2.2.1 bt368.2.2.2.2.2.1 bt368.2.2.2.2.2.2 0 0 ([] : List (S52))).bind fun t379 => (if t379 = true then ((pred_Eval.f k 2 (⟨#[]⟩ : ByteArray) 0 0 (⟨#[]⟩ : ByteArray) ([] : List ByteArray) ([] : List (S25)) 0 0 ([] : List (S52))).bind fun t380 => (some (!t380))) else (some false)))) else (some false)))))))))) = some r := H
 have A1 := Aside0.mk A10
 clear A10
 replace H := Option.bind_eq_some_iff.mp H
 obtain ⟨⟨t283, t284, t285, t286, t287, t288, t291⟩, A20, H⟩ := H
 replace H : ((columbariumlaw13_nots.f k t283 t284 t285 t286 t287 t288 t291 1).bind fun bt294 => ((columbariumlaw13_nots.f k 1 (⟨#[]⟩ : ByteArray) 0 0 (⟨#[]⟩ : ByteArray) ([] : List ByteArray) (([(⟨t272, t273, t274, t275, t276, t277, t280⟩ : S25), (⟨bt294.1, bt294.2.1, bt294.2.2.1, bt294.2.2.2.1, bt294.2.2.2.2.1, bt294.2.2.2.2.2.1, bt294.2.2.2.2.2.2⟩ : S25)] : List (S25))) 1).bind fun bt308 => ((pred_Normal.f k bt308.1 bt308.2.1 bt308.2.2.1 bt308.2.2.2.1 bt308.2.2.2.2.1 bt308.2.2.2.2.2.1 bt308.2.2.2.2.2.2).bind fun bt319 => ((columbariumlaw13_null.f (⟨#[120]⟩ : ByteArray)).bind fun bt331 => ((columbariumlaw13_nots.f k bt331.1 bt331.2.1 bt331.2.2.1 bt331.2.2.2.1 bt331.2.2.2.2.1 bt331.2.2.2.2.2.1 bt331.2.2.2.2.2.2 1).bind fun bt342 => ((columbariumlaw13_null.f (⟨#[121]⟩ : ByteArray)).bind fun bt353 => ((columbariumkeep_Pred.f k bt319.1 bt319.2.1 bt319.2.2.1 bt319.2.2.2.1 bt319.2.2.2.2.1 bt319.2.2.2.2.2.1 bt319.2.2.2.2.2.2 2 (⟨#[]⟩ : ByteArray) 0 0 (⟨#[]⟩ : ByteArray) ([] : List ByteArray) (([(⟨bt342.1, bt342.2.1, bt342.2.2.1, bt342.2.2.2.1, bt342.2.2.2.2.1, bt342.2.2.2.2.2.1, bt342.2.2.2.2.2.2⟩ : S25), (⟨bt353.1, bt353.2.1, bt353.2.2.1, bt353.2.2.2.1, bt353.2.2.2.2.1, bt353.2.2.2.2.2.1, bt353.2.2.2.2.2.2⟩ : S25)] : List (S25)))).bind fun t367 => (if t367 = true then ((columbariumkeep_Everything.f).bind fun bt368 => ((pred_Eval.f k bt368.1 bt368.2.1 bt368.2.2.1 bt368.2.2.2.1 bt368.2.2.2.2.1 bt368.2.2.2.2.2.1 bt368.2.2.2.2.2.2 0 0 ([] : List (S52))).bind fun t379 => (if t379 = true then ((pred_Eval.f k 2 (⟨#[]⟩ : ByteArray) 0 0 (⟨#[]⟩ : ByteArray) ([] : List ByteArray) ([] : List (S25)) 0 0 ([] : List (S52))).bind fun t380 => (some (!t380))) else (some false)))) else (some false))))))))) = some r := H
 have A2 := Aside0.mk A20
 clear A20
 replace H := Option.bind_eq_some_iff.mp H
 obtain ⟨⟨t294, t295, t296, t297, t298, t299, t302⟩, A30, H⟩ := H
 replace H : ((columbariumlaw13_nots.f k 1 (⟨#[]⟩ : ByteArray) 0 0 (⟨#[]⟩ : ByteArray) ([] : List ByteArray) (([(⟨t272, t273, t274, t275, t276, t277, t280⟩ : S25), (⟨t294, t295, t296, t297, t298, t299, t302⟩ : S25)] : List (S25))) 1).bind fun bt308 => ((pred_Normal.f k bt308.1 bt308.2.1 bt308.2.2.1 bt308.2.2.2.1 bt308.2.2.2.2.1 bt308.2.2.2.2.2.1 bt308.2.2.2.2.2.2).bind fun bt319 => ((columbariumlaw13_null.f (⟨#[120]⟩ : ByteArray)).bind fun bt331 => ((columbariumlaw13_nots.f k bt331.1 bt331.2.1 bt331.2.2.1 bt331.2.2.2.1 bt331.2.2.2.2.1 bt331.2.2.2.2.2.1 bt331.2.2.2.2.2.2 1).bind fun bt342 => ((columbariumlaw13_null.f (⟨#[121]⟩ : ByteArray)).bind fun bt353 => ((columbariumkeep_Pred.f k bt319.1 bt319.2.1 bt319.2.2.1 bt319.2.2.2.1 bt319.2.2.2.2.1 bt319.2.2.2.2.2.1 bt319.2.2.2.2.2.2 2 (⟨#[]⟩ : ByteArray) 0 0 (⟨#[]⟩ : ByteArray) ([] : List ByteArray) (([(⟨bt342.1, bt342.2.1, bt342.2.2.1, bt342.2.2.2.1, bt342.2.2.2.2.1, bt342.2.2.2.2.2.1, bt342.2.2.2.2.2.2⟩ : S25), (⟨bt353.1, bt353.2.1, bt353.2.2.1, bt353.2.2.2.1, bt353.2.2.2.2.1, bt353.2.2.2.2.2.1, bt353.2.2.2.2.2.2⟩ : S25)] : List (S25)))).bind fun t367 => (if t367 = true then ((columbariumkeep_Everything.f).bind fun bt368 => ((pred_Eval.f k bt368.1 bt368.2.1 bt368.2.2.1 bt368.2.2.2.1 bt368.2.2.2.2.1 bt368.2.2.2.2.2.1 bt368.2.2.2.2.2.2 0 0 ([] : List (S52))).bind fun t379 => (if t379 = true then ((pred_Eval.f k 2 (⟨#[]⟩ : ByteArray) 0 0 (⟨#[]⟩ : ByteArray) ([] : List ByteArray) ([] : List (S25)) 0 0 ([] : List (S52))).bind fun t380 => (some (!t380))) else (some false)))) else (some false)))))))) = some r := H
 have A3 := Aside0.mk A30
 clear A30
 obtain ⟨y305, hy305⟩ : ∃ y_ : List (S25), y_ = (([(⟨t272, t273, t274, t275, t276, t277, t280⟩ : S25), (⟨t294, t295, t296, t297, t298, t299, t302⟩ : S25)] : List (S25))) := ⟨_, rfl⟩
 replace H : ((columbariumlaw13_nots.f k 1 (⟨#[]⟩ : ByteArray) 0 0 (⟨#[]⟩ : ByteArray) ([] : List ByteArray) y305 1).bind fun bt308 => ((pred_Normal.f k bt308.1 bt308.2.1 bt308.2.2.1 bt308.2.2.2.1 bt308.2.2.2.2.1 bt308.2.2.2.2.2.1 bt308.2.2.2.2.2.2).bind fun bt319 => ((columbariumlaw13_null.f (⟨#[120]⟩ : ByteArray)).bind fun bt331 => ((columbariumlaw13_nots.f k bt331.1 bt331.2.1 bt331.2.2.1 bt331.2.2.2.1 bt331.2.2.2.2.1 bt331.2.2.2.2.2.1 bt331.2.2.2.2.2.2 1).bind fun bt342 => ((columbariumlaw13_null.f (⟨#[121]⟩ : ByteArray)).bind fun bt353 => ((columbariumkeep_Pred.f k bt319.1 bt319.2.1 bt319.2.2.1 bt319.2.2.2.1 bt319.2.2.2.2.1 bt319.2.2.2.2.2.1 bt319.2.2.2.2.2.2 2 (⟨#[]⟩ : ByteArray) 0 0 (⟨#[]⟩ : ByteArray) ([] : List ByteArray) (([(⟨bt342.1, bt342.2.1, bt342.2.2.1, bt342.2.2.2.1, bt342.2.2.2.2.1, bt342.2.2.2.2.2.1, bt342.2.2.2.2.2.2⟩ : S25), (⟨bt353.1, bt353.2.1, bt353.2.2.1, bt353.2.2.2.1, bt353.2.2.2.2.1, bt353.2.2.2.2.2.1, bt353.2.2.2.2.2.2⟩ : S25)] : List (S25)))).bind fun t367 => (if t367 = true then ((columbariumkeep_Everything.f).bind fun bt368 => ((pred_Eval.f k bt368.1 bt368.2.1 bt368.2.2.1 bt368.2.2.2.1 bt368.2.2.2.2.1 bt368.2.2.2.2.2.1 bt368.2.2.2.2.2.2 0 0 ([] : List (S52))).bind fun t379 => (if t379 = true then ((pred_Eval.f k 2 (⟨#[]⟩ : ByteArray) 0 0 (⟨#[]⟩ : ByteArray) ([] : List ByteArray) ([] : List (S25)) 0 0 ([] : List (S52))).bind fun t380 => (some (!t380))) else (some false)))) else (some false)))))))) = some r := by first | (rw [hy305]; with_reducible exact H) | (have H2_ := (Option.bind_some _ _).symm.trans H; rw [hy305]; with_reducible exact H2_) | (have H2_ := (Option.bind_some _ _).symm.trans H; with_reducible exact H2_) | with_reducible exact H | (rw [hy305]; exact H) | exact H
 have Ny305 := Aside0.mk hy305
 clear hy305
 replace H := Option.bind_eq_some_iff.mp H
 obtain ⟨⟨t308, t309, t310, t311, t312, t313, t316⟩, A40, H⟩ := H
 replace H : ((pred_Normal.f k t308 t309 t310 t311 t312 t313 t316).bind fun bt319 => ((columbariumlaw13_null.f (⟨#[120]⟩ : ByteArray)).bind fun bt331 => ((columbariumlaw13_nots.f k bt331.1 bt331.2.1 bt331.2.2.1 bt331.2.2.2.1 bt331.2.2.2.2.1 bt331.2.2.2.2.2.1 bt331.2.2.2.2.2.2 1).bind fun bt342 => ((columbariumlaw13_null.f (⟨#[121]⟩ : ByteArray)).bind fun bt353 => ((columbariumkeep_Pred.f k bt319.1 bt319.2.1 bt319.2.2.1 bt319.2.2.2.1 bt319.2.2.2.2.1 bt319.2.2.2.2.2.1 bt319.2.2.2.2.2.2 2 (⟨#[]⟩ : ByteArray) 0 0 (⟨#[]⟩ : ByteArray) ([] : List ByteArray) (([(⟨bt342.1, bt342.2.1, bt342.2.2.1, bt342.2.2.2.1, bt342.2.2.2.2.1, bt342.2.2.2.2.2.1, bt342.2.2.2.2.2.2⟩ : S25), (⟨bt353.1, bt353.2.1, bt353.2.2.1, bt353.2.2.2.1, bt353.2.2.2.2.1, bt353.2.2.2.2.2.1, bt353.2.2.2.2.2.2⟩ : S25)] : List (S25)))).bind fun t367 => (if t367 = true then ((columbariumkeep_Everything.f).bind fun bt368 => ((pred_Eval.f k bt368.1 bt368.2.1 bt368.2.2.1 bt368.2.2.2.1 bt368.2.2.2.2.1 bt368.2.2.2.2.2.1 bt368.2.2.2.2.2.2 0 0 ([] : List (S52))).bind fun t379 => (if t379 = true then ((pred_Eval.f k 2 (⟨#[]⟩ : ByteArray) 0 0 (⟨#[]⟩ : ByteArray) ([] : List ByteArray) ([] : List (S25)) 0 0 ([] : List (S52))).bind fun t380 => (some (!t380))) else (some false)))) else (some false))))))) = some r := H
 have A4 := Aside0.mk A40
 clear A40
 replace H := Option.bind_eq_some_iff.mp H
 obtain ⟨⟨t319, t320, t321, t322, t323, t324, t327⟩, A50, H⟩ := H
 replace H : ((columbariumlaw13_null.f (⟨#[120]⟩ : ByteArray)).bind fun bt331 => ((columbariumlaw13_nots.f k bt331.1 bt331.2.1 bt331.2.2.1 bt331.2.2.2.1 bt331.2.2.2.2.1 bt331.2.2.2.2.2.1 bt331.2.2.2.2.2.2 1).bind fun bt342 => ((columbariumlaw13_null.f (⟨#[121]⟩ : ByteArray)).bind fun bt353 => ((columbariumkeep_Pred.f k t319 t320 t321 t322 t323 t324 t327 2 (⟨#[]⟩ : ByteArray) 0 0 (⟨#[]⟩ : ByteArray) ([] : List ByteArray) (([(⟨bt342.1, bt342.2.1, bt342.2.2.1, bt342.2.2.2.1, bt342.2.2.2.2.1, bt342.2.2.2.2.2.1, bt342.2.2.2.2.2.2⟩ : S25), (⟨bt353.1, bt353.2.1, bt353.2.2.1, bt353.2.2.2.1, bt353.2.2.2.2.1, bt353.2.2.2.2.2.1, bt353.2.2.2.2.2.2⟩ : S25)] : List (S25)))).bind fun t367 => (if t367 = true then ((columbariumkeep_Everything.f).bind fun bt368 => ((pred_Eval.f k bt368.1 bt368.2.1 bt368.2.2.1 bt368.2.2.2.1 bt368.2.2.2.2.1 bt368.2.2.2.2.2.1 bt368.2.2.2.2.2.2 0 0 ([] : List (S52))).bind fun t379 => (if t379 = true then ((pred_Eval.f k 2 (⟨#[]⟩ : ByteArray) 0 0 (⟨#[]⟩ : ByteArray) ([] : List ByteArray) ([] : List (S25)) 0 0 ([] : List (S52))).bind fun t380 => (some (!t380))) else (some false)))) else (some false)))))) = some r := H
 have A5 := Aside0.mk A50
 clear A50
 replace H := Option.bind_eq_some_iff.mp H
 obtain ⟨⟨t331, t332, t333, t334, t335, t336, t339⟩, A60, H⟩ := H
 replace H : ((columbariumlaw13_nots.f k t331 t332 t333 t334 t335 t336 t339 1).bind fun bt342 => ((columbariumlaw13_null.f (⟨#[121]⟩ : ByteArray)).bind fun bt353 => ((columbariumkeep_Pred.f k t319 t320 t321 t322 t323 t324 t327 2 (⟨#[]⟩ : ByteArray) 0 0 (⟨#[]⟩ : ByteArray) ([] : List ByteArray) (([(⟨bt342.1, bt342.2.1, bt342.2.2.1, bt342.2.2.2.1, bt342.2.2.2.2.1, bt342.2.2.2.2.2.1, bt342.2.2.2.2.2.2⟩ : S25), (⟨bt353.1, bt353.2.1, bt353.2.2.1, bt353.2.2.2.1, bt353.2.2.2.2.1, bt353.2.2.2.2.2.1, bt353.2.2.2.2.2.2⟩ : S25)] : List (S25)))).bind fun t367 => (if t367 = true then ((columbariumkeep_Everything.f).bind fun bt368 => ((pred_Eval.f k bt368.1 bt368.2.1 bt368.2.2.1 bt368.2.2.2.1 bt368.2.2.2.2.1 bt368.2.2.2.2.2.1 bt368.2.2.2.2.2.2 0 0 ([] : List (S52))).bind fun t379 => (if t379 = true then ((pred_Eval.f k 2 (⟨#[]⟩ : ByteArray) 0 0 (⟨#[]⟩ : ByteArray) ([] : List ByteArray) ([] : List (S25)) 0 0 ([] : List (S52))).bind fun t380 => (some (!t380))) else (some false)))) else (some false))))) = some r := H
 have A6 := Aside0.mk A60
 clear A60
 replace H := Option.bind_eq_some_iff.mp H
 obtain ⟨⟨t342, t343, t344, t345, t346, t347, t350⟩, A70, H⟩ := H
 replace H : ((columbariumlaw13_null.f (⟨#[121]⟩ : ByteArray)).bind fun bt353 => ((columbariumkeep_Pred.f k t319 t320 t321 t322 t323 t324 t327 2 (⟨#[]⟩ : ByteArray) 0 0 (⟨#[]⟩ : ByteArray) ([] : List ByteArray) (([(⟨t342, t343, t344, t345, t346, t347, t350⟩ : S25), (⟨bt353.1, bt353.2.1, bt353.2.2.1, bt353.2.2.2.1, bt353.2.2.2.2.1, bt353.2.2.2.2.2.1, bt353.2.2.2.2.2.2⟩ : S25)] : List (S25)))).bind fun t367 => (if t367 = true then ((columbariumkeep_Everything.f).bind fun bt368 => ((pred_Eval.f k bt368.1 bt368.2.1 bt368.2.2.1 bt368.2.2.2.1 bt368.2.2.2.2.1 bt368.2.2.2.2.2.1 bt368.2.2.2.2.2.2 0 0 ([] : List (S52))).bind fun t379 => (if t379 = true then ((pred_Eval.f k 2 (⟨#[]⟩ : ByteArray) 0 0 (⟨#[]⟩ : ByteArray) ([] : List ByteArray) ([] : List (S25)) 0 0 ([] : List (S52))).bind fun t380 => (some (!t380))) else (some false)))) else (some false)))) = some r := H
 have A7 := Aside0.mk A70
 clear A70
 replace H := Option.bind_eq_some_iff.mp H
 obtain ⟨⟨t353, t354, t355, t356, t357, t358, t361⟩, A80, H⟩ := H
 replace H : ((columbariumkeep_Pred.f k t319 t320 t321 t322 t323 t324 t327 2 (⟨#[]⟩ : ByteArray) 0 0 (⟨#[]⟩ : ByteArray) ([] : List ByteArray) (([(⟨t342, t343, t344, t345, t346, t347, t350⟩ : S25), (⟨t353, t354, t355, t356, t357, t358, t361⟩ : S25)] : List (S25)))).bind fun t367 => (if t367 = true then ((columbariumkeep_Everything.f).bind fun bt368 => ((pred_Eval.f k bt368.1 bt368.2.1 bt368.2.2.1 bt368.2.2.2.1 bt368.2.2.2.2.1 bt368.2.2.2.2.2.1 bt368.2.2.2.2.2.2 0 0 ([] : List (S52))).bind fun t379 => (if t379 = true then ((pred_Eval.f k 2 (⟨#[]⟩ : ByteArray) 0 0 (⟨#[]⟩ : ByteArray) ([] : List ByteArray) ([] : List (S25)) 0 0 ([] : List (S52))).bind fun t380 => (some (!t380))) else (some false)))) else (some false))) = some r := H
 have A8 := Aside0.mk A80
 clear A80
 obtain ⟨y364, hy364⟩ : ∃ y_ : List (S25), y_ = (([(⟨t342, t343, t344, t345, t346, t347, t350⟩ : S25), (⟨t353, t354, t355, t356, t357, t358, t361⟩ : S25)] : List (S25))) := ⟨_, rfl⟩
 replace H : ((columbariumkeep_Pred.f k t319 t320 t321 t322 t323 t324 t327 2 (⟨#[]⟩ : ByteArray) 0 0 (⟨#[]⟩ : ByteArray) ([] : List ByteArray) y364).bind fun t367 => (if t367 = true then ((columbariumkeep_Everything.f).bind fun bt368 => ((pred_Eval.f k bt368.1 bt368.2.1 bt368.2.2.1 bt368.2.2.2.1 bt368.2.2.2.2.1 bt368.2.2.2.2.2.1 bt368.2.2.2.2.2.2 0 0 ([] : List (S52))).bind fun t379 => (if t379 = true then ((pred_Eval.f k 2 (⟨#[]⟩ : ByteArray) 0 0 (⟨#[]⟩ : ByteArray) ([] : List ByteArray) ([] : List (S25)) 0 0 ([] : List (S52))).bind fun t380 => (some (!t380))) else (some false)))) else (some false))) = some r := by first | (rw [hy364]; with_reducible exact H) | (have H2_ := (Option.bind_some _ _).symm.trans H; rw [hy364]; with_reducible exact H2_) | (have H2_ := (Option.bind_some _ _).symm.trans H; with_reducible exact H2_) | with_reducible exact H | (rw [hy364]; exact H) | exact H
 have Ny364 := Aside0.mk hy364
 clear hy364
 replace H := Option.bind_eq_some_iff.mp H
 obtain ⟨t367, A90, H⟩ := H
 replace H : (if t367 = true then ((columbariumkeep_Everything.f).bind fun bt368 => ((pred_Eval.f k bt368.1 bt368.2.1 bt368.2.2.1 bt368.2.2.2.1 bt368.2.2.2.2.1 bt368.2.2.2.2.2.1 bt368.2.2.2.2.2.2 0 0 ([] : List (S52))).bind fun t379 => (if t379 = true then ((pred_Eval.f k 2 (⟨#[]⟩ : ByteArray) 0 0 (⟨#[]⟩ : ByteArray) ([] : List ByteArray) ([] : List (S25)) 0 0 ([] : List (S52))).bind fun t380 => (some (!t380))) else (some false)))) else (some false)) = some r := H
 have A9 := Aside0.mk A90
 clear A90
 by_cases c10 : t367 = true
 ·subst c10
  have H1 : ((columbariumkeep_Everything.f).bind fun bt368 => ((pred_Eval.f k bt368.1 bt368.2.1 bt368.2.2.1 bt368.2.2.2.1 bt368.2.2.2.2.1 bt368.2.2.2.2.2.1 bt368.2.2.2.2.2.2 0 0 ([] : List (S52))).bind fun t379 => (if t379 = true then ((pred_Eval.f k 2 (⟨#[]⟩ : ByteArray) 0 0 (⟨#[]⟩ : ByteArray) ([] : List ByteArray) ([] : List (S25)) 0 0 ([] : List (S52))).bind fun t380 => (some (!t380))) else (some false)))) = some r := by rw [if_pos rfl] at H; exact H
  clear H
  have H := H1
  clear H1
  replace H := Option.bind_eq_some_iff.mp H
  obtain ⟨⟨t368, t369, t370, t371, t372, t373, t376⟩, A110, H⟩ := H
  replace H : ((pred_Eval.f k t368 t369 t370 t371 t372 t373 t376 0 0 ([] : List (S52))).bind fun t379 => (if t379 = true then ((pred_Eval.f k 2 (⟨#[]⟩ : ByteArray) 0 0 (⟨#[]⟩ : ByteArray) ([] : List ByteArray) ([] : List (S25)) 0 0 ([] : List (S52))).bind fun t380 => (some (!t380))) else (some false))) = some r := H
  have A11 := Aside0.mk A110
  clear A110
  replace H := Option.bind_eq_some_iff.mp H
  obtain ⟨t379, A120, H⟩ := H
  replace H : (if t379 = true then ((pred_Eval.f k 2 (⟨#[]⟩ : ByteArray) 0 0 (⟨#[]⟩ : ByteArray) ([] : List ByteArray) ([] : List (S25)) 0 0 ([] : List (S52))).bind fun t380 => (some (!t380))) else (some false)) = some r := H
  have A12 := Aside0.mk A120
  clear A120
  by_cases c13 : t379 = true
  ·subst c13
   have H1 : ((pred_Eval.f k 2 (⟨#[]⟩ : ByteArray) 0 0 (⟨#[]⟩ : ByteArray) ([] : List ByteArray) ([] : List (S25)) 0 0 ([] : List (S52))).bind fun t380 => (some (!t380))) = some r := by rw [if_pos rfl] at H; exact H
   clear H
   have H := H1
   clear H1
   replace H := Option.bind_eq_some_iff.mp H
   obtain ⟨t380, A140, H⟩ := H
   replace H : (some (!t380)) = some r := H
   have A14 := Aside0.mk A140
   clear A140
   obtain rfl := Option.some.inj H
   go_enter Try.func11, Try.ntmps11
   try go_wp2_with (first | ((with_reducible refine gate_callee (f := 18) rfl ?_); refine goesL_ (some 2) rfl rfl Try.func18 (by kernel_rfl) rfl #[.string (⟨#[120]⟩ : ByteArray)] rfl (by (try simp only [List.map_toArray, List.map_cons, List.map_nil]); first | done | rfl | (simp only [List.length_drop, List.length_take]; rfl)) ?_; (with_reducible refine (columbariumlaw13_null.calls (⟨#[120]⟩ : ByteArray) t272 t273 t274 t275 t276 t277 t280 _ A1.out).mono ?_); rintro e w15 ⟨v278, v281, rfl, ho0, ho1, hb⟩; refine ⟨_, rfl, ?_⟩; (try replace ho1 := Kd.S_N ho1); have n0_ := Aside0.mk (Kd.R_lower ho0 (below_size (mB HB.out))); have n1_ := Aside0.mk (Kd.N_lower (Kd.N_mono (ok' := fun k_ => some k_ ≠ (v278 : Value).ownBlock) (Kd.R_N (Kd.R_bound ho1)) (fun k_ hk_ => hk_.1)) (below_size (mB HB.out))); have n2_ := Aside0.mk (below_step (mB HB.out) hb); clear HB; have HO279 := n0_; have HO282 := n1_; have HB := n2_; clear n0_ n1_ n2_; (try clear hb); (try clear hb2); (try clear hk); (try clear hi); (try clear ho0); (try clear ho1)) | ((with_reducible refine gate_callee (f := 18) rfl ?_); refine goesL_ (some 3) rfl rfl Try.func18 (by kernel_rfl) rfl #[.string (⟨#[121]⟩ : ByteArray)] rfl (by (try simp only [List.map_toArray, List.map_cons, List.map_nil]); first | done | rfl | (simp only [List.length_drop, List.length_take]; rfl)) ?_; (with_reducible refine (columbariumlaw13_null.calls (⟨#[121]⟩ : ByteArray) t283 t284 t285 t286 t287 t288 t291 _ A2.out).mono ?_); rintro e w16 ⟨v289, v292, rfl, ho0, ho1, hb⟩; refine ⟨_, rfl, ?_⟩; (try replace ho1 := Kd.S_N ho1); have n0_ := Aside0.mk (Kd.R_elder' (mR HO279.out) (Kd.R_base ho0) hb); have n1_ := Aside0.mk (Kd.N_mono (Kd.N_told (Kd.N_told (Kd.N_old (mN HO282.out) hb) (Kd.R_base ho0)) (by first | exact Kd.N_base ho1 | exact Kd.N_base (Kd.R_N ho1))) (fun _ h_ => h_.1)); have n2_ := Aside0.mk (Kd.R_lower (Kd.R_new' ho0 (Kd.R_lt (mR HO279.out))) (below_size (mB HB.out))); have n3_ := Aside0.mk (Kd.N_lower (Kd.N_mono (ok' := fun k_ => some k_ ≠ (v289 : Value).ownBlock ∧ some k_ ≠ (v278 : Value).ownBlock ∧ some k_ ≠ (v281 : Value).ownBlock) (Kd.R_N (Kd.R_bound ho1)) (fun k_ hk_ => ⟨hk_.1, (Kd.fresh' (Kd.R_lt (mR HO279.out)) k_ hk_.2.1), (Kd.fresh' (Kd.N_lt (mN HO282.out)) k_ hk_.2.1)⟩)) (below_size (mB HB.out))); have n4_ := Aside0.mk (below_step (mB HB.out) hb); clear HO279; clear HO282; clear HB; have HO279 := n0_; have HO282 := n1_; have HO290 := n2_; have HO293 := n3_; have HB := n4_; clear n0_ n1_ n2_ n3_ n4_; (try clear hb); (try clear hb2); (try clear hk); (try clear hi); (try clear ho0); (try clear ho1); obtain ⟨Ao17, co17, eo17⟩ := Kd.R_slice HO290.out; subst eo17; obtain ⟨Ao18, co18, eo18⟩ := Kd.N_slice HO293.out; subst eo18) | ((with_reducible refine gate_callee (f := 16) rfl ?_); refine goesL_ (some 4) rfl rfl Try.func16 (by kernel_rfl) rfl #[.agg #[.int .i64 t283, .string t284, .int .i64 t285, .int .i64 t286, .string t287, .slice Ao17 t288.length co17, .slice Ao18 t291.length co18], .int .i64 1] rfl (by (try simp only [List.map_toArray, List.map_cons, List.map_nil]); first | done | rfl | (simp only [List.length_drop, List.length_take]; rfl)) ?_; (with_reducible refine (columbariumlaw13_nots.calls k t283 t284 t285 t286 t287 (fun k_ => some k_ = (.slice Ao17 t288.length co17 : Value).ownBlock) _ _ t288 (fun k_ => (some k_ ≠ (.slice Ao17 t288.length co17 : Value).ownBlock ∧ (some k_ ≠ (v278 : Value).ownBlock ∧ some k_ ≠ (v281 : Value).ownBlock))) _ _ t291 1 t294 t295 t296 t297 t298 t299 t302 _ ?side1 ?side2 A3.out).mono ?_); (case side1 => exact Kd.R_V (Kd.R_tight rfl (Kd.R_apart' (Kd.R_apart' (HO290.out) (Kd.N_typed HO282.out) (by decide)) (Kd.N_typed HO293.out) (by decide)))); (case side2 => exact Kd.N_V (HO293.out)); rintro e w19 ⟨v300, v303, rfl, ho0, ho1, hb⟩; refine ⟨_, rfl, ?_⟩; have n0_ := Aside0.mk (Kd.R_below (mR HO279.out) hb); have n1_ := Aside0.mk (Kd.N_below (mN HO282.out) hb); have n2_ := Aside0.mk (Kd.R_below (mR HO290.out) hb); have n3_ := Aside0.mk (Kd.N_below (mN HO293.out) hb); have n4_ := Aside0.mk (Kd.V_lower (Kd.V_mono (ok' := fun k_ => some k_ ≠ (v278 : Value).ownBlock ∧ some k_ ≠ (v281 : Value).ownBlock) ho0 (fun k_ hk_ => ⟨Or.elim hk_ (fun hs_ => Or.elim hs_ (fun hs_ => ((Kd.R_apart' (Kd.R_apart' (HO290.out) (Kd.N_typed HO282.out) (by decide)) (Kd.N_typed HO293.out) (by decide)).1 k_ hs_.symm).1.1.2) (fun hs_ => hs_.2.1)) (fun hn_ => (Kd.fresh' (Kd.R_lt (mR HO279.out)) k_ hn_)), Or.elim hk_ (fun hs_ => Or.elim hs_ (fun hs_ => ((Kd.R_apart' (Kd.R_apart' (HO290.out) (Kd.N_typed HO282.out) (by decide)) (Kd.N_typed HO293.out) (by decide)).1 k_ hs_.symm).1.2) (fun hs_ => hs_.2.2)) (fun hn_ => (Kd.fresh' (Kd.N_lt (mN HO282.out)) k_ hn_))⟩)) (below_size (mB HB.out))); have n5_ := Aside0.mk (Kd.V_lower (Kd.V_mono (ok' := fun k_ => some k_ ≠ (v278 : Value).ownBlock ∧ some k_ ≠ (v281 : Value).ownBlock) ho1 (fun k_ hk_ => ⟨Or.elim hk_ (fun hs_ => Or.elim hs_ (fun hs_ => ((Kd.R_apart' (Kd.R_apart' (HO290.out) (Kd.N_typed HO282.out) (by decide)) (Kd.N_typed HO293.out) (by decide)).1 k_ hs_.symm).1.1.2) (fun hs_ => hs_.2.1)) (fun hn_ => (Kd.fresh' (Kd.R_lt (mR HO279.out)) k_ hn_)), Or.elim hk_ (fun hs_ => Or.elim hs_ (fun hs_ => ((Kd.R_apart' (Kd.R_apart' (HO290.out) (Kd.N_typed HO282.out) (by decide)) (Kd.N_typed HO293.out) (by decide)).1 k_ hs_.symm).1.2) (fun hs_ => hs_.2.2)) (fun hn_ => (Kd.fresh' (Kd.N_lt (mN HO282.out)) k_ hn_))⟩)) (below_size (mB HB.out))); have n6_ := Aside0.mk (below_step (mB HB.out) hb); clear HO279; clear HO282; clear HO290; clear HO293; clear HB; have HO279 := n0_; have HO282 := n1_; have HO290 := n2_; have HO293 := n3_; have HO301 := n4_; have HO304 := n5_; have HB := n6_; clear n0_ n1_ n2_ n3_ n4_ n5_ n6_; (try clear hb); (try clear hb2); (try clear hk); (try clear hi); (try clear ho0); (try clear ho1); obtain ⟨Ao20, co20, eo20⟩ := Kd.R_slice HO279.out; subst eo20; obtain ⟨Ao21, co21, eo21⟩ := Kd.N_slice HO282.out; subst eo21; obtain ⟨Ao22, co22, eo22⟩ := Kd.V_slice HO301.out; subst eo22; obtain ⟨Ao23, co23, eo23⟩ := Kd.V_slice HO304.out; subst eo23) | ((with_reducible refine gate_dst (N := 5) rfl ?_); refine Kd.N_lit k25 _ 25 ?hg (N' := 5) ?hd (xs := ([(⟨t272, t273, t274, t275, t276, t277, t280⟩ : S25), (⟨t294, t295, t296, t297, t298, t299, t302⟩ : S25)] : List (S25))) (inner := [.int .i64 t272, .string t273, .int .i64 t274, .int .i64 t275, .string t276, .slice Ao20 t277.length co20, .slice Ao21 t280.length co21, .int .i64 t294, .string t295, .int .i64 t296, .int .i64 t297, .string t298, .slice Ao22 t299.length co22, .slice Ao23 t302.length co23]) (ok := (fun _ => True)) (okp := (fun _ => True)) ?hr ?hp (fun _ hk => hk) ((show ∀ k_, w19.heap.size ≤ k_ → (fun _ => True) k_ from fun k_ hk => trivial) _ (Nat.le_refl _)) (Below.refl _ _) (Nat.le_refl _) (by simp) ?_; (case hd => rfl); (case hg => rfl); (case hr => first | (go_simp; done) | (go_simp; rfl)); (case hp => exact (Reps.c7 (show Kd.FK k25 _ _ (⟨t272, t273, t274, t275, t276, t277, t280⟩ : S25) [.int .i64 t272, .string t273, .int .i64 t274, .int .i64 t275, .string t276, .slice Ao20 t277.length co20, .slice Ao21 t280.length co21] from (k25_mkF _ _ (⟨t272, t273, t274, t275, t276, t277, t280⟩ : S25) (Kd.R_reads' (Kd.R_mono (ok' := (fun _ => True)) (HO279.out) (fun k_ hk => trivial))).2.1 (Kd.R_F (by (with_reducible repeat (first | apply Kd.R_alloc | apply Kd.R_drewN | apply Kd.R_drew)); exact (Kd.R_mono (ok' := (fun _ => True)) (HO279.out) (fun k_ hk => trivial)))) (Kd.N_reads' (Kd.N_mono (ok' := (fun _ => True)) (HO282.out) (fun k_ hk => trivial))).2.1 (Kd.N_F (by (with_reducible repeat (first | apply Kd.N_alloc | apply Kd.N_drewN | apply Kd.N_drew)); exact (Kd.N_mono (ok' := (fun _ => True)) (HO282.out) (fun k_ hk => trivial)))))) (Reps.c7 (show Kd.FK k25 _ _ (⟨t294, t295, t296, t297, t298, t299, t302⟩ : S25) [.int .i64 t294, .string t295, .int .i64 t296, .int .i64 t297, .string t298, .slice Ao22 t299.length co22, .slice Ao23 t302.length co23] from (k25_mkF _ _ (⟨t294, t295, t296, t297, t298, t299, t302⟩ : S25) (Kd.V_reads' (Kd.V_mono (ok' := (fun _ => True)) (HO301.out) (fun k_ hk => trivial))).2.1 (Kd.V_F (by (with_reducible repeat (first | apply Kd.V_alloc | apply Kd.V_drewN | apply Kd.V_drew)); exact (Kd.V_mono (ok' := (fun _ => True)) (HO301.out) (fun k_ hk => trivial)))) (Kd.V_reads' (Kd.V_mono (ok' := (fun _ => True)) (HO304.out) (fun k_ hk => trivial))).2.1 (Kd.V_F (by (with_reducible repeat (first | apply Kd.V_alloc | apply Kd.V_drewN | apply Kd.V_drew)); exact (Kd.V_mono (ok' := (fun _ => True)) (HO304.out) (fun k_ hk => trivial)))))) (Reps.none _ _)))); intro v306 w24 ho25 hb hg_ hnew_; clear hg_ hnew_; (first | rw [← Ny305.out] at ho25 | (simp only [Int.reduceToNat] at ho25; rw [← Ny305.out] at ho25)); have n0_ := Aside0.mk (Kd.R_below (mR HO290.out) hb); have n1_ := Aside0.mk (Kd.N_elder' (mN HO293.out) (by first | exact Kd.N_base ho25 | exact Kd.N_base (Kd.R_N ho25)) hb); have n2_ := Aside0.mk (Kd.V_elder' (mV HO301.out) (by first | exact Kd.N_base ho25 | exact Kd.N_base (Kd.R_N ho25)) hb); have n3_ := Aside0.mk (Kd.V_elder' (mV HO304.out) (by first | exact Kd.N_base ho25 | exact Kd.N_base (Kd.R_N ho25)) hb); have n4_ := Aside0.mk (Kd.N_lower ho25 (below_size (mB HB.out))); have n5_ := Aside0.mk (below_step (mB HB.out) hb); clear HO290; clear HO293; clear HO301; clear HO304; clear HB; clear HO279; clear HO282; have HO290 := n0_; have HO293 := n1_; have HO301 := n2_; have HO304 := n3_; have HO307 := n4_; have HB := n5_; clear n0_ n1_ n2_ n3_ n4_ n5_; clear hb ho25; obtain ⟨Ao26, co26, eo26⟩ := Kd.N_slice HO307.out; subst eo26) | ((with_reducible refine gate_callee (f := 16) rfl ?_); refine goesL_ (some 7) rfl rfl Try.func16 (by kernel_rfl) rfl #[.agg #[.int .i64 1, .string (⟨#[]⟩ : ByteArray), .int .i64 0, .int .i64 0, .string (⟨#[]⟩ : ByteArray), .slice none 0 0, .slice Ao26 y305.length co26], .int .i64 1] rfl (by (try simp only [List.map_toArray, List.map_cons, List.map_nil]); first | done | rfl | (simp only [List.length_drop, List.length_take]; rfl)) ?_; (refine (columbariumlaw13_nots.calls k 1 (⟨#[]⟩ : ByteArray) 0 0 (⟨#[]⟩ : ByteArray) (fun k_ => False) _ _ ([] : List ByteArray) (fun k_ => True) _ _ y305 1 t308 t309 t310 t311 t312 t313 t316 _ ?side1 ?side2 A4.out).mono ?_); (case side1 => exact Kd.V_nil _ _ _ _ _); (case side2 => exact Kd.N_V (HO307.out)); rintro e w27 ⟨v314, v317, rfl, ho0, ho1, hb⟩; refine ⟨_, rfl, ?_⟩; have n0_ := Aside0.mk (Kd.R_below (mR HO290.out) hb); have n1_ := Aside0.mk (Kd.N_below (mN HO293.out) hb); have n2_ := Aside0.mk (Kd.V_below (mV HO301.out) hb); have n3_ := Aside0.mk (Kd.V_below (mV HO304.out) hb); have n4_ := Aside0.mk (Kd.N_below (mN HO307.out) hb); have n5_ := Aside0.mk (Kd.V_lower (Kd.V_mono (ok' := fun k_ => True) ho0 (fun k_ hk_ => trivial)) (below_size (mB HB.out))); have n6_ := Aside0.mk (Kd.V_lower (Kd.V_mono (ok' := fun k_ => True) ho1 (fun k_ hk_ => trivial)) (below_size (mB HB.out))); have n7_ := Aside0.mk (below_step (mB HB.out) hb); clear HO290; clear HO293; clear HO301; clear HO304; clear HO307; clear HB; have HO290 := n0_; have HO293 := n1_; have HO301 := n2_; have HO304 := n3_; have HO307 := n4_; have HO315 := n5_; have HO318 := n6_; have HB := n7_; clear n0_ n1_ n2_ n3_ n4_ n5_ n6_ n7_; (try clear hb); (try clear hb2); (try clear hk); (try clear hi); (try clear ho0); (try clear ho1); obtain ⟨Ao28, co28, eo28⟩ := Kd.V_slice HO315.out; subst eo28; obtain ⟨Ao29, co29, eo29⟩ := Kd.V_slice HO318.out; subst eo29) | ((with_reducible refine gate_callee (f := 10) rfl ?_); refine goesL_ (some 8) rfl rfl Try.func10 (by kernel_rfl) rfl #[.agg #[.int .i64 t308, .string t309, .int .i64 t310, .int .i64 t311, .string t312, .slice Ao28 t313.length co28, .slice Ao29 t316.length co29]] rfl (by (try simp only [List.map_toArray, List.map_cons, List.map_nil]); first | done | rfl | (simp only [List.length_drop, List.length_take]; rfl)) ?_; (with_reducible refine (pred_Normal.calls k t308 t309 t310 t311 t312 _ _ t313 _ _ t316 t319 t320 t321 t322 t323 t324 t327 _ ?side1 ?side2 ?side3 ?side4 A5.out).mono ?_); (case side1 => repeat (first | exact (Kd.V_reads' HO315.out).2.2 | (with_reducible refine Kd.C_alloc ?_ _) | (with_reducible refine Kd.C_drewN ?_ _) | (with_reducible refine Kd.C_drew ?_))); (case side2 => exact (Kd.V_reads' HO315.out).2.1); (case side3 => repeat (first | exact (Kd.V_reads' HO318.out).2.2 | (with_reducible refine Kd.C_alloc ?_ _) | (with_reducible refine Kd.C_drewN ?_ _) | (with_reducible refine Kd.C_drew ?_))); (case side4 => exact (Kd.V_reads' HO318.out).2.1); rintro e w30 ⟨v325, v328, rfl, ho0, ho1, hb⟩; refine ⟨_, rfl, ?_⟩; have n0_ := Aside0.mk (Kd.R_below (mR HO290.out) hb); have n1_ := Aside0.mk (Kd.N_below (mN HO293.out) hb); have n2_ := Aside0.mk (Kd.V_below (mV HO301.out) hb); have n3_ := Aside0.mk (Kd.V_below (mV HO304.out) hb); have n4_ := Aside0.mk (Kd.N_below (mN HO307.out) hb); have n5_ := Aside0.mk (Kd.V_below (mV HO315.out) hb); have n6_ := Aside0.mk (Kd.V_below (mV HO318.out) hb); have n7_ := Aside0.mk (Kd.V_lower (Kd.V_mono (ok' := fun k_ => some k_ ≠ (.slice Ao17 t288.length co17 : Value).ownBlock ∧ some k_ ≠ (.slice Ao18 t291.length co18 : Value).ownBlock ∧ some k_ ≠ (.slice Ao26 y305.length co26 : Value).ownBlock) ho0 (fun k_ hk_ => ⟨(Kd.fresh' (Kd.R_lt (mR HO290.out)) k_ hk_), (Kd.fresh' (Kd.N_lt (mN HO293.out)) k_ hk_), (Kd.fresh' (Kd.N_lt (mN HO307.out)) k_ hk_)⟩)) (below_size (mB HB.out))); have n8_ := Aside0.mk (Kd.V_lower (Kd.V_mono (ok' := fun k_ => some k_ ≠ (.slice Ao17 t288.length co17 : Value).ownBlock ∧ some k_ ≠ (.slice Ao18 t291.length co18 : Value).ownBlock ∧ some k_ ≠ (.slice Ao26 y305.length co26 : Value).ownBlock) ho1 (fun k_ hk_ => ⟨(Kd.fresh' (Kd.R_lt (mR HO290.out)) k_ hk_), (Kd.fresh' (Kd.N_lt (mN HO293.out)) k_ hk_), (Kd.fresh' (Kd.N_lt (mN HO307.out)) k_ hk_)⟩)) (below_size (mB HB.out))); have n9_ := Aside0.mk (below_step (mB HB.out) hb); clear HO290; clear HO293; clear HO301; clear HO304; clear HO307; clear HO315; clear HO318; clear HB; have HO290 := n0_; have HO293 := n1_; have HO301 := n2_; have HO304 := n3_; have HO307 := n4_; have HO315 := n5_; have HO318 := n6_; have HO326 := n7_; have HO329 := n8_; have HB := n9_; clear n0_ n1_ n2_ n3_ n4_ n5_ n6_ n7_ n8_ n9_; (try clear hb); (try clear hb2); (try clear hk); (try clear hi); (try clear ho0); (try clear ho1)) | ((with_reducible refine gate_dst (N := 1) rfl ?_); refine box_event ?hg (N := 1) ?hd (cs := #[.int .i64 0, .string (⟨#[]⟩ : ByteArray), .int .i64 0, .int .i64 0, .string (⟨#[]⟩ : ByteArray), .slice none 0 0, .slice none 0 0]) (t := 25) ?hr ?_; (case hd => rfl); (case hg => rfl); (case hr => first | (go_simp; done) | (go_simp; rfl)); intro gb330 hg w31 hbox hb; have n0_ := Aside0.mk (Kd.R_below (mR HO290.out) hb); have n1_ := Aside0.mk (Kd.N_below (Kd.N_elderB (mN HO293.out) gb330 (Nat.le_of_eq hg.symm)) hb); have n2_ := Aside0.mk (Kd.V_below (Kd.V_elderB (mV HO301.out) gb330 (Nat.le_of_eq hg.symm)) hb); have n3_ := Aside0.mk (Kd.V_below (Kd.V_elderB (mV HO304.out) gb330 (Nat.le_of_eq hg.symm)) hb); have n4_ := Aside0.mk (Kd.N_below (Kd.N_elderB (mN HO307.out) gb330 (Nat.le_of_eq hg.symm)) hb); have n5_ := Aside0.mk (Kd.V_below (Kd.V_elderB (mV HO315.out) gb330 (Nat.le_of_eq hg.symm)) hb); have n6_ := Aside0.mk (Kd.V_below (Kd.V_elderB (mV HO318.out) gb330 (Nat.le_of_eq hg.symm)) hb); have n7_ := Aside0.mk (Kd.V_below (Kd.V_elderB (mV HO326.out) gb330 (Nat.le_of_eq hg.symm)) hb); have n8_ := Aside0.mk (Kd.V_below (Kd.V_elderB (mV HO329.out) gb330 (Nat.le_of_eq hg.symm)) hb); have n9_ := Aside0.mk (below_step (mB HB.out) hb); have n10_ := Aside0.mk (hbox); have n11_ := Aside0.mk ((by rw [hg]; exact (below_size (mB HB.out)) : w.heap.size ≤ gb330)); have n12_ := n11_; clear HO290; clear HO293; clear HO301; clear HO304; clear HO307; clear HO315; clear HO318; clear HO326; clear HO329; clear HB; have HO290 := n0_; have HO293 := n1_; have HO301 := n2_; have HO304 := n3_; have HO307 := n4_; have HO315 := n5_; have HO318 := n6_; have HO326 := n7_; have HO329 := n8_; have HB := n9_; have BK330 := n10_; have GW330 := n11_; have GE330 := n12_; clear n0_ n1_ n2_ n3_ n4_ n5_ n6_ n7_ n8_ n9_ n10_ n11_ n12_; clear hb hbox hg; obtain ⟨hcz32_0, hcz32_1, hcz32_2, hcz32_3, hcz32_4, hcz32_5, hcz32_6, hfz32_0, hfz32_1, hfz32_2, hfz32_3, hfz32_4, hfz32_5, hfz32_6⟩ := cells_7 BK330.out; obtain ⟨Ao33, co33, eo33⟩ := Kd.V_slice HO326.out; subst eo33; obtain ⟨Ao34, co34, eo34⟩ := Kd.V_slice HO329.out; subst eo34))
   have n0_ : Aside0 (Kd.R Kd.string 9 (((((((w31.setCell ⟨gb330, 0, none⟩ (.int .i64 t319)).setCell ⟨gb330, 1, none⟩ (.string t320)).setCell ⟨gb330, 2, none⟩ (.int .i64 t321)).setCell ⟨gb330, 3, none⟩ (.int .i64 t322)).setCell ⟨gb330, 4, none⟩ (.string t323)).setCell ⟨gb330, 5, none⟩ (.slice Ao33 t324.length co33)).setCell ⟨gb330, 6, none⟩ (.slice Ao34 t327.length co34)) w.heap.size (fun _ => True) (.slice Ao17 t288.length co17) t288) := ⟨by (with_reducible repeat (first | apply Kd.R_alloc | apply Kd.R_drewN | apply Kd.R_drew)); exact Kd.R_mono (Kd.R_far (p := ⟨gb330, 6, none⟩) (Kd.R_far (p := ⟨gb330, 5, none⟩) (Kd.R_far (p := ⟨gb330, 4, none⟩) (Kd.R_far (p := ⟨gb330, 3, none⟩) (Kd.R_far (p := ⟨gb330, 2, none⟩) (Kd.R_far (p := ⟨gb330, 1, none⟩) (Kd.R_far (p := ⟨gb330, 0, none⟩) (Kd.R_types HO290.out BK330.out (by decide)) (fun _ hk => hk.2) (.int .i64 t319)) (fun _ hk => hk.2) (.string t320)) (fun _ hk => hk.2) (.int .i64 t321)) (fun _ hk => hk.2) (.int .i64 t322)) (fun _ hk => hk.2) (.string t323)) (fun _ hk => hk.2) (.slice Ao33 t324.length co33)) (fun _ hk => hk.2) (.slice Ao34 t327.length co34)) (fun _ hk => trivial)⟩
   have n1_ : Aside0 (Kd.N k25 25 (((((((w31.setCell ⟨gb330, 0, none⟩ (.int .i64 t319)).setCell ⟨gb330, 1, none⟩ (.string t320)).setCell ⟨gb330, 2, none⟩ (.int .i64 t321)).setCell ⟨gb330, 3, none⟩ (.int .i64 t322)).setCell ⟨gb330, 4, none⟩ (.string t323)).setCell ⟨gb330, 5, none⟩ (.slice Ao33 t324.length co33)).setCell ⟨gb330, 6, none⟩ (.slice Ao34 t327.length co34)) w.heap.size (fun k_ => some k_ ≠ (.slice Ao17 t288.length co17 : Value).ownBlock ∧ some k_ ≠ (.slice Ao26 y305.length co26 : Value).ownBlock ∧ k_ ≠ gb330) (.slice Ao18 t291.length co18) t291) := ⟨by (with_reducible repeat (first | apply Kd.N_alloc | apply Kd.N_drewN | apply Kd.N_drew)); exact Kd.N_mono (Kd.N_far (p := ⟨gb330, 6, none⟩) (Kd.N_far (p := ⟨gb330, 5, none⟩) (Kd.N_far (p := ⟨gb330, 4, none⟩) (Kd.N_far (p := ⟨gb330, 3, none⟩) (Kd.N_far (p := ⟨gb330, 2, none⟩) (Kd.N_far (p := ⟨gb330, 1, none⟩) (Kd.N_far (p := ⟨gb330, 0, none⟩) (Kd.N_mono HO293.out (fun k_ hk => (⟨hk, hk.2⟩ : _ ∧ k_ ≠ gb330))) (fun _ hk => hk.2) (.int .i64 t319)) (fun _ hk => hk.2) (.string t320)) (fun _ hk => hk.2) (.int .i64 t321)) (fun _ hk => hk.2) (.int .i64 t322)) (fun _ hk => hk.2) (.string t323)) (fun _ hk => hk.2) (.slice Ao33 t324.length co33)) (fun _ hk => hk.2) (.slice Ao34 t327.length co34)) (fun _ hk => ⟨hk.1.1.1.1, ⟨hk.1.1.2, hk.1.2⟩⟩)⟩
   have n2_ : Aside0 (Kd.V Kd.string 9 (((((((w31.setCell ⟨gb330, 0, none⟩ (.int .i64 t319)).setCell ⟨gb330, 1, none⟩ (.string t320)).setCell ⟨gb330, 2, none⟩ (.int .i64 t321)).setCell ⟨gb330, 3, none⟩ (.int .i64 t322)).setCell ⟨gb330, 4, none⟩ (.string t323)).setCell ⟨gb330, 5, none⟩ (.slice Ao33 t324.length co33)).setCell ⟨gb330, 6, none⟩ (.slice Ao34 t327.length co34)) w.heap.size (fun k_ => some k_ ≠ (.slice Ao26 y305.length co26 : Value).ownBlock ∧ k_ ≠ gb330) (.slice Ao22 t299.length co22) t299) := ⟨by (with_reducible repeat (first | apply Kd.V_alloc | apply Kd.V_drewN | apply Kd.V_drew)); exact Kd.V_mono (Kd.V_far (p := ⟨gb330, 6, none⟩) (Kd.V_far (p := ⟨gb330, 5, none⟩) (Kd.V_far (p := ⟨gb330, 4, none⟩) (Kd.V_far (p := ⟨gb330, 3, none⟩) (Kd.V_far (p := ⟨gb330, 2, none⟩) (Kd.V_far (p := ⟨gb330, 1, none⟩) (Kd.V_far (p := ⟨gb330, 0, none⟩) (Kd.V_mono HO301.out (fun k_ hk => (⟨hk, hk.2⟩ : _ ∧ k_ ≠ gb330))) (fun _ hk => hk.2) (.int .i64 t319)) (fun _ hk => hk.2) (.string t320)) (fun _ hk => hk.2) (.int .i64 t321)) (fun _ hk => hk.2) (.int .i64 t322)) (fun _ hk => hk.2) (.string t323)) (fun _ hk => hk.2) (.slice Ao33 t324.length co33)) (fun _ hk => hk.2) (.slice Ao34 t327.length co34)) (fun _ hk => ⟨hk.1.1.2, hk.1.2⟩)⟩
   have n3_ : Aside0 (Kd.V k25 25 (((((((w31.setCell ⟨gb330, 0, none⟩ (.int .i64 t319)).setCell ⟨gb330, 1, none⟩ (.string t320)).setCell ⟨gb330, 2, none⟩ (.int .i64 t321)).setCell ⟨gb330, 3, none⟩ (.int .i64 t322)).setCell ⟨gb330, 4, none⟩ (.string t323)).setCell ⟨gb330, 5, none⟩ (.slice Ao33 t324.length co33)).setCell ⟨gb330, 6, none⟩ (.slice Ao34 t327.length co34)) w.heap.size (fun k_ => some k_ ≠ (.slice Ao26 y305.length co26 : Value).ownBlock ∧ k_ ≠ gb330) (.slice Ao23 t302.length co23) t302) := ⟨by (with_reducible repeat (first | apply Kd.V_alloc | apply Kd.V_drewN | apply Kd.V_drew)); exact Kd.V_mono (Kd.V_far (p := ⟨gb330, 6, none⟩) (Kd.V_far (p := ⟨gb330, 5, none⟩) (Kd.V_far (p := ⟨gb330, 4, none⟩) (Kd.V_far (p := ⟨gb330, 3, none⟩) (Kd.V_far (p := ⟨gb330, 2, none⟩) (Kd.V_far (p := ⟨gb330, 1, none⟩) (Kd.V_far (p := ⟨gb330, 0, none⟩) (Kd.V_mono HO304.out (fun k_ hk => (⟨hk, hk.2⟩ : _ ∧ k_ ≠ gb330))) (fun _ hk => hk.2) (.int .i64 t319)) (fun _ hk => hk.2) (.string t320)) (fun _ hk => hk.2) (.int .i64 t321)) (fun _ hk => hk.2) (.int .i64 t322)) (fun _ hk => hk.2) (.string t323)) (fun _ hk => hk.2) (.slice Ao33 t324.length co33)) (fun _ hk => hk.2) (.slice Ao34 t327.length co34)) (fun _ hk => ⟨hk.1.1.2, hk.1.2⟩)⟩
   have n4_ : Aside0 (Kd.N k25 25 (((((((w31.setCell ⟨gb330, 0, none⟩ (.int .i64 t319)).setCell ⟨gb330, 1, none⟩ (.string t320)).setCell ⟨gb330, 2, none⟩ (.int .i64 t321)).setCell ⟨gb330, 3, none⟩ (.int .i64 t322)).setCell ⟨gb330, 4, none⟩ (.string t323)).setCell ⟨gb330, 5, none⟩ (.slice Ao33 t324.length co33)).setCell ⟨gb330, 6, none⟩ (.slice Ao34 t327.length co34)) w.heap.size (fun k_ => k_ ≠ gb330) (.slice Ao26 y305.length co26) y305) := ⟨by (with_reducible repeat (first | apply Kd.N_alloc | apply Kd.N_drewN | apply Kd.N_drew)); exact Kd.N_mono (Kd.N_far (p := ⟨gb330, 6, none⟩) (Kd.N_far (p := ⟨gb330, 5, none⟩) (Kd.N_far (p := ⟨gb330, 4, none⟩) (Kd.N_far (p := ⟨gb330, 3, none⟩) (Kd.N_far (p := ⟨gb330, 2, none⟩) (Kd.N_far (p := ⟨gb330, 1, none⟩) (Kd.N_far (p := ⟨gb330, 0, none⟩) (Kd.N_mono HO307.out (fun k_ hk => (⟨hk, hk.2⟩ : _ ∧ k_ ≠ gb330))) (fun _ hk => hk.2) (.int .i64 t319)) (fun _ hk => hk.2) (.string t320)) (fun _ hk => hk.2) (.int .i64 t321)) (fun _ hk => hk.2) (.int .i64 t322)) (fun _ hk => hk.2) (.string t323)) (fun _ hk => hk.2) (.slice Ao33 t324.length co33)) (fun _ hk => hk.2) (.slice Ao34 t327.length co34)) (fun _ hk => hk.1.2)⟩
   have n5_ : Aside0 (Kd.V Kd.string 9 (((((((w31.setCell ⟨gb330, 0, none⟩ (.int .i64 t319)).setCell ⟨gb330, 1, none⟩ (.string t320)).setCell ⟨gb330, 2, none⟩ (.int .i64 t321)).setCell ⟨gb330, 3, none⟩ (.int .i64 t322)).setCell ⟨gb330, 4, none⟩ (.string t323)).setCell ⟨gb330, 5, none⟩ (.slice Ao33 t324.length co33)).setCell ⟨gb330, 6, none⟩ (.slice Ao34 t327.length co34)) w.heap.size (fun k_ => k_ ≠ gb330) (.slice Ao28 t313.length co28) t313) := ⟨by (with_reducible repeat (first | apply Kd.V_alloc | apply Kd.V_drewN | apply Kd.V_drew)); exact Kd.V_mono (Kd.V_far (p := ⟨gb330, 6, none⟩) (Kd.V_far (p := ⟨gb330, 5, none⟩) (Kd.V_far (p := ⟨gb330, 4, none⟩) (Kd.V_far (p := ⟨gb330, 3, none⟩) (Kd.V_far (p := ⟨gb330, 2, none⟩) (Kd.V_far (p := ⟨gb330, 1, none⟩) (Kd.V_far (p := ⟨gb330, 0, none⟩) (Kd.V_mono HO315.out (fun k_ hk => (⟨hk, hk.2⟩ : _ ∧ k_ ≠ gb330))) (fun _ hk => hk.2) (.int .i64 t319)) (fun _ hk => hk.2) (.string t320)) (fun _ hk => hk.2) (.int .i64 t321)) (fun _ hk => hk.2) (.int .i64 t322)) (fun _ hk => hk.2) (.string t323)) (fun _ hk => hk.2) (.slice Ao33 t324.length co33)) (fun _ hk => hk.2) (.slice Ao34 t327.length co34)) (fun _ hk => hk.1.2)⟩
   have n6_ : Aside0 (Kd.V k25 25 (((((((w31.setCell ⟨gb330, 0, none⟩ (.int .i64 t319)).setCell ⟨gb330, 1, none⟩ (.string t320)).setCell ⟨gb330, 2, none⟩ (.int .i64 t321)).setCell ⟨gb330, 3, none⟩ (.int .i64 t322)).setCell ⟨gb330, 4, none⟩ (.string t323)).setCell ⟨gb330, 5, none⟩ (.slice Ao33 t324.length co33)).setCell ⟨gb330, 6, none⟩ (.slice Ao34 t327.length co34)) w.heap.size (fun k_ => k_ ≠ gb330) (.slice Ao29 t316.length co29) t316) := ⟨by (with_reducible repeat (first | apply Kd.V_alloc | apply Kd.V_drewN | apply Kd.V_drew)); exact Kd.V_mono (Kd.V_far (p := ⟨gb330, 6, none⟩) (Kd.V_far (p := ⟨gb330, 5, none⟩) (Kd.V_far (p := ⟨gb330, 4, none⟩) (Kd.V_far (p := ⟨gb330, 3, none⟩) (Kd.V_far (p := ⟨gb330, 2, none⟩) (Kd.V_far (p := ⟨gb330, 1, none⟩) (Kd.V_far (p := ⟨gb330, 0, none⟩) (Kd.V_mono HO318.out (fun k_ hk => (⟨hk, hk.2⟩ : _ ∧ k_ ≠ gb330))) (fun _ hk => hk.2) (.int .i64 t319)) (fun _ hk => hk.2) (.string t320)) (fun _ hk => hk.2) (.int .i64 t321)) (fun _ hk => hk.2) (.int .i64 t322)) (fun _ hk => hk.2) (.string t323)) (fun _ hk => hk.2) (.slice Ao33 t324.length co33)) (fun _ hk => hk.2) (.slice Ao34 t327.length co34)) (fun _ hk => hk.1.2)⟩
   have n7_ : Aside0 (Kd.V Kd.string 9 (((((((w31.setCell ⟨gb330, 0, none⟩ (.int .i64 t319)).setCell ⟨gb330, 1, none⟩ (.string t320)).setCell ⟨gb330, 2, none⟩ (.int .i64 t321)).setCell ⟨gb330, 3, none⟩ (.int .i64 t322)).setCell ⟨gb330, 4, none⟩ (.string t323)).setCell ⟨gb330, 5, none⟩ (.slice Ao33 t324.length co33)).setCell ⟨gb330, 6, none⟩ (.slice Ao34 t327.length co34)) w.heap.size (fun k_ => some k_ ≠ (.slice Ao17 t288.length co17 : Value).ownBlock ∧ some k_ ≠ (.slice Ao18 t291.length co18 : Value).ownBlock ∧ some k_ ≠ (.slice Ao26 y305.length co26 : Value).ownBlock ∧ k_ ≠ gb330) (.slice Ao33 t324.length co33) t324) := ⟨by (with_reducible repeat (first | apply Kd.V_alloc | apply Kd.V_drewN | apply Kd.V_drew)); exact Kd.V_mono (Kd.V_far (p := ⟨gb330, 6, none⟩) (Kd.V_far (p := ⟨gb330, 5, none⟩) (Kd.V_far (p := ⟨gb330, 4, none⟩) (Kd.V_far (p := ⟨gb330, 3, none⟩) (Kd.V_far (p := ⟨gb330, 2, none⟩) (Kd.V_far (p := ⟨gb330, 1, none⟩) (Kd.V_far (p := ⟨gb330, 0, none⟩) (Kd.V_mono HO326.out (fun k_ hk => (⟨hk, hk.2⟩ : _ ∧ k_ ≠ gb330))) (fun _ hk => hk.2) (.int .i64 t319)) (fun _ hk => hk.2) (.string t320)) (fun _ hk => hk.2) (.int .i64 t321)) (fun _ hk => hk.2) (.int .i64 t322)) (fun _ hk => hk.2) (.string t323)) (fun _ hk => hk.2) (.slice Ao33 t324.length co33)) (fun _ hk => hk.2) (.slice Ao34 t327.length co34)) (fun _ hk => ⟨hk.1.1.1, ⟨hk.1.1.2.1, ⟨hk.1.1.2.2, hk.1.2⟩⟩⟩)⟩
   have n8_ : Aside0 (Kd.V k25 25 (((((((w31.setCell ⟨gb330, 0, none⟩ (.int .i64 t319)).setCell ⟨gb330, 1, none⟩ (.string t320)).setCell ⟨gb330, 2, none⟩ (.int .i64 t321)).setCell ⟨gb330, 3, none⟩ (.int .i64 t322)).setCell ⟨gb330, 4, none⟩ (.string t323)).setCell ⟨gb330, 5, none⟩ (.slice Ao33 t324.length co33)).setCell ⟨gb330, 6, none⟩ (.slice Ao34 t327.length co34)) w.heap.size (fun k_ => some k_ ≠ (.slice Ao17 t288.length co17 : Value).ownBlock ∧ some k_ ≠ (.slice Ao18 t291.length co18 : Value).ownBlock ∧ some k_ ≠ (.slice Ao26 y305.length co26 : Value).ownBlock ∧ k_ ≠ gb330) (.slice Ao34 t327.length co34) t327) := ⟨by (with_reducible repeat (first | apply Kd.V_alloc | apply Kd.V_drewN | apply Kd.V_drew)); exact Kd.V_mono (Kd.V_far (p := ⟨gb330, 6, none⟩) (Kd.V_far (p := ⟨gb330, 5, none⟩) (Kd.V_far (p := ⟨gb330, 4, none⟩) (Kd.V_far (p := ⟨gb330, 3, none⟩) (Kd.V_far (p := ⟨gb330, 2, none⟩) (Kd.V_far (p := ⟨gb330, 1, none⟩) (Kd.V_far (p := ⟨gb330, 0, none⟩) (Kd.V_mono HO329.out (fun k_ hk => (⟨hk, hk.2⟩ : _ ∧ k_ ≠ gb330))) (fun _ hk => hk.2) (.int .i64 t319)) (fun _ hk => hk.2) (.string t320)) (fun _ hk => hk.2) (.int .i64 t321)) (fun _ hk => hk.2) (.int .i64 t322)) (fun _ hk => hk.2) (.string t323)) (fun _ hk => hk.2) (.slice Ao33 t324.length co33)) (fun _ hk => hk.2) (.slice Ao34 t327.length co34)) (fun _ hk => ⟨hk.1.1.1, ⟨hk.1.1.2.1, ⟨hk.1.1.2.2, hk.1.2⟩⟩⟩)⟩
   have n9_ : Aside0 ((((((((w31.setCell ⟨gb330, 0, none⟩ (.int .i64 t319)).setCell ⟨gb330, 1, none⟩ (.string t320)).setCell ⟨gb330, 2, none⟩ (.int .i64 t321)).setCell ⟨gb330, 3, none⟩ (.int .i64 t322)).setCell ⟨gb330, 4, none⟩ (.string t323)).setCell ⟨gb330, 5, none⟩ (.slice Ao33 t324.length co33)).setCell ⟨gb330, 6, none⟩ (.slice Ao34 t327.length co34)).heap[gb330]? = some (.cells #[.int .i64 t319, .string t320, .int .i64 t321, .int .i64 t322, .string t323, .slice Ao33 t324.length co33, .slice Ao34 t327.length co34] 25 (0, 0))) := ⟨by (with_reducible repeat (first | refine blk_drewN ?_ _ | refine blk_drew ?_ | refine blk_alloc ?_ _)); apply puts_7; (with_reducible repeat (first | refine blk_drewN ?_ _ | refine blk_drew ?_ | refine blk_alloc ?_ _)); exact BK330.out⟩
   have n10_ : Aside0 (Below w.heap.size w (((((((w31.setCell ⟨gb330, 0, none⟩ (.int .i64 t319)).setCell ⟨gb330, 1, none⟩ (.string t320)).setCell ⟨gb330, 2, none⟩ (.int .i64 t321)).setCell ⟨gb330, 3, none⟩ (.int .i64 t322)).setCell ⟨gb330, 4, none⟩ (.string t323)).setCell ⟨gb330, 5, none⟩ (.slice Ao33 t324.length co33)).setCell ⟨gb330, 6, none⟩ (.slice Ao34 t327.length co34))) := ⟨mZ⟩
   (try clear HO290)
   (try clear HO293)
   (try clear HO301)
   (try clear HO304)
   (try clear HO307)
   (try clear HO315)
   (try clear HO318)
   (try clear HO326)
   (try clear HO329)
   (try clear BK330)
   (try clear HB)
   generalize (((((((w31.setCell ⟨gb330, 0, none⟩ (.int .i64 t319)).setCell ⟨gb330, 1, none⟩ (.string t320)).setCell ⟨gb330, 2, none⟩ (.int .i64 t321)).setCell ⟨gb330, 3, none⟩ (.int .i64 t322)).setCell ⟨gb330, 4, none⟩ (.string t323)).setCell ⟨gb330, 5, none⟩ (.slice Ao33 t324.length co33)).setCell ⟨gb330, 6, none⟩ (.slice Ao34 t327.length co34)) = w35 at n0_ n1_ n2_ n3_ n4_ n5_ n6_ n7_ n8_ n9_ n10_ ⊢
   have HO290 := n0_
   have HO293 := n1_
   have HO301 := n2_
   have HO304 := n3_
   have HO307 := n4_
   have HO315 := n5_
   have HO318 := n6_
   have HO326 := n7_
   have HO329 := n8_
   have BK330 := n9_
   have HB := n10_
   clear n0_ n1_ n2_ n3_ n4_ n5_ n6_ n7_ n8_ n9_ n10_
   have n0_ := Aside0.mk (Kd.R_drew HO290.out)
   have n1_ := Aside0.mk (Kd.N_drew HO293.out)
   have n2_ := Aside0.mk (Kd.V_drew HO301.out)
   have n3_ := Aside0.mk (Kd.V_drew HO304.out)
   have n4_ := Aside0.mk (Kd.N_drew HO307.out)
   have n5_ := Aside0.mk (Kd.V_drew HO315.out)
   have n6_ := Aside0.mk (Kd.V_drew HO318.out)
   have n7_ := Aside0.mk (Kd.V_drew HO326.out)
   have n8_ := Aside0.mk (Kd.V_drew HO329.out)
   have n9_ := Aside0.mk (blk_drew BK330.out)
   have n10_ := Aside0.mk (below_drew1 HB.out)
   clear HO290
   clear HO293
   clear HO301
   clear HO304
   clear HO307
   clear HO315
   clear HO318
   clear HO326
   clear HO329
   clear BK330
   clear HB
   have HO290 := n0_
   have HO293 := n1_
   have HO301 := n2_
   have HO304 := n3_
   have HO307 := n4_
   have HO315 := n5_
   have HO318 := n6_
   have HO326 := n7_
   have HO329 := n8_
   have BK330 := n9_
   have HB := n10_
   clear n0_ n1_ n2_ n3_ n4_ n5_ n6_ n7_ n8_ n9_ n10_
   refine start_ (n := 19) (S := fun w' => w'.cell? ⟨gb330, 0, none⟩ = some (.int .i64 t319) ∧ w'.cell? ⟨gb330, 1, none⟩ = some (.string t320) ∧ w'.cell? ⟨gb330, 2, none⟩ = some (.int .i64 t321) ∧ w'.cell? ⟨gb330, 3, none⟩ = some (.int .i64 t322) ∧ w'.cell? ⟨gb330, 4, none⟩ = some (.string t323) ∧ w'.cell? ⟨gb330, 5, none⟩ = some (.slice Ao33 t324.length co33) ∧ w'.cell? ⟨gb330, 6, none⟩ = some (.slice Ao34 t327.length co34)) (ds := []) #[false, false, false, false, false, false, false, false, false, false, false, false, false, false, false, false, false, false, false] (by kernel_rfl) rfl rfl ⟨(blk_cell BK330.out 0).trans rfl, (blk_cell BK330.out 1).trans rfl, (blk_cell BK330.out 2).trans rfl, (blk_cell BK330.out 3).trans rfl, (blk_cell BK330.out 4).trans rfl, (blk_cell BK330.out 5).trans rfl, (blk_cell BK330.out 6).trans rfl⟩ (fun hHeld => ?_); refine with_tabW columbariumlaw13_known.tab2 columbariumlaw13_known.bits2 (fun HT_ HW_ => ?_)
   generalize w35.drew = w36 at HO290 HO293 HO301 HO304 HO307 HO315 HO318 HO326 HO329 BK330 HB hHeld ⊢
   refine take_ (i := 0) (N := some 9) (v := ?_) (a' := ?_) #[true, false, false, false, false, false, false, false, false, false, false, false, false, false, false, false, false, false, false] rfl rfl (take_ofW HT_.out HW_.out (by kernel_rfl)) (fun _ _ _ h => h) (Or.inl ⟨by rfl, ?_⟩) hHeld ?_ ?_
   rotate_left
   ·rintro w' ⟨s0, s1, s2, s3, s4, s5, s6⟩
    go_simp
    with_reducible rfl
   rotate_left
   ·simp only [Act.put, List.setIfInBounds_toArray, List.set_cons_zero, List.set_cons_succ, i64_w, i32_w]
    rfl
   refine one_ (i := 1) (N := some 10) #[true, true, false, false, false, false, false, false, false, false, false, false, false, false, false, false, false, false, false] rfl rfl (one_of HT_.out (by kernel_rfl)) (by decide) (fun K hK => ?_)
   refine goes_ Try.func18 (by kernel_rfl) rfl #[.string (⟨#[120]⟩ : ByteArray)] (by rfl) rfl rfl (by (try simp only [List.map_toArray, List.map_cons, List.map_nil]); first | done | rfl | (simp only [List.length_drop, List.length_take]; rfl)) ?_
   with_reducible refine (columbariumlaw13_null.calls (⟨#[120]⟩ : ByteArray) t331 t332 t333 t334 t335 t336 t339 _ A6.out).mono ?_
   rintro e w37 ⟨v337, v340, rfl, ho0, ho1, hb⟩
   refine ⟨_, rfl, ?_⟩
   (try replace ho1 := Kd.S_N ho1)
   have n0_ := Aside0.mk (Kd.R_elder' (mR HO290.out) (Kd.R_base ho0) hb)
   have n1_ := Aside0.mk (Kd.N_mono (Kd.N_told (Kd.N_told (Kd.N_old (mN HO293.out) hb) (Kd.R_base ho0)) (by first | exact Kd.N_base ho1 | exact Kd.N_base (Kd.R_N ho1))) (fun _ h_ => h_.1))
   have n2_ := Aside0.mk (Kd.V_mono (Kd.V_told (Kd.V_told (Kd.V_old (mV HO301.out) hb) (Kd.R_base ho0)) (by first | exact Kd.N_base ho1 | exact Kd.N_base (Kd.R_N ho1))) (fun _ h_ => h_.1))
   have n3_ := Aside0.mk (Kd.V_mono (Kd.V_told (Kd.V_told (Kd.V_old (mV HO304.out) hb) (Kd.R_base ho0)) (by first | exact Kd.N_base ho1 | exact Kd.N_base (Kd.R_N ho1))) (fun _ h_ => h_.1))
   have n4_ := Aside0.mk (Kd.N_mono (Kd.N_told (Kd.N_told (Kd.N_old (mN HO307.out) hb) (Kd.R_base ho0)) (by first | exact Kd.N_base ho1 | exact Kd.N_base (Kd.R_N ho1))) (fun _ h_ => h_.1))
   have n5_ := Aside0.mk (Kd.V_mono (Kd.V_told (Kd.V_told (Kd.V_old (mV HO315.out) hb) (Kd.R_base ho0)) (by first | exact Kd.N_base ho1 | exact Kd.N_base (Kd.R_N ho1))) (fun _ h_ => h_.1))
   have n6_ := Aside0.mk (Kd.V_mono (Kd.V_told (Kd.V_told (Kd.V_old (mV HO318.out) hb) (Kd.R_base ho0)) (by first | exact Kd.N_base ho1 | exact Kd.N_base (Kd.R_N ho1))) (fun _ h_ => h_.1))
   have n7_ := Aside0.mk (Kd.V_mono (Kd.V_told (Kd.V_told (Kd.V_old (mV HO326.out) hb) (Kd.R_base ho0)) (by first | exact Kd.N_base ho1 | exact Kd.N_base (Kd.R_N ho1))) (fun _ h_ => h_.1))
   have n8_ := Aside0.mk (Kd.V_mono (Kd.V_told (Kd.V_told (Kd.V_old (mV HO329.out) hb) (Kd.R_base ho0)) (by first | exact Kd.N_base ho1 | exact Kd.N_base (Kd.R_N ho1))) (fun _ h_ => h_.1))
   have n9_ := Aside0.mk (Kd.R_lower (Kd.R_new' ho0 (Kd.R_lt (mR HO290.out))) (below_size mZ))
   have n10_ := Aside0.mk (Kd.N_lower (Kd.N_mono (ok' := fun k_ => some k_ ≠ (v337 : Value).ownBlock ∧ some k_ ≠ (.slice Ao17 t288.length co17 : Value).ownBlock ∧ some k_ ≠ (.slice Ao18 t291.length co18 : Value).ownBlock ∧ some k_ ≠ (.slice Ao26 y305.length co26 : Value).ownBlock ∧ k_ ≠ gb330) (Kd.R_N (Kd.R_bound ho1)) (fun k_ hk_ => ⟨hk_.1, (Kd.fresh' (Kd.R_lt (mR HO290.out)) k_ hk_.2.1), (Kd.fresh' (Kd.N_lt (mN HO293.out)) k_ hk_.2.1), (Kd.fresh' (Kd.N_lt (mN HO307.out)) k_ hk_.2.1), (Kd.freshB (mK BK330.out) k_ hk_.2.1)⟩)) (below_size mZ))
   have n11_ := Aside0.mk (blk_below (mK BK330.out) hb)
   have n12_ := Aside0.mk (below_step mZ hb)
   clear HO290
   clear HO293
   clear HO301
   clear HO304
   clear HO307
   clear HO315
   clear HO318
   clear HO326
   clear HO329
   clear BK330
   clear HB
   have HO290 := n0_
   have HO293 := n1_
   have HO301 := n2_
   have HO304 := n3_
   have HO307 := n4_
   have HO315 := n5_
   have HO318 := n6_
   have HO326 := n7_
   have HO329 := n8_
   have HO338 := n9_
   have HO341 := n10_
   have BK330 := n11_
   have HB := n12_
   clear n0_ n1_ n2_ n3_ n4_ n5_ n6_ n7_ n8_ n9_ n10_ n11_ n12_
   (try clear hb)
   (try clear hb2)
   (try clear hk)
   (try clear hi)
   (try clear ho0)
   (try clear ho1)
   obtain ⟨Ao38, co38, eo38⟩ := Kd.R_slice HO338.out
   (first | subst eo38 | (injection eo38 with f1_ f2_ f3_; have f4_ := f1_.symm; have f5_ := f3_.symm; clear f1_ f2_ f3_; subst f4_; subst f5_))
   obtain ⟨Ao39, co39, eo39⟩ := Kd.N_slice HO341.out
   (first | subst eo39 | (injection eo39 with f1_ f2_ f3_; have f4_ := f1_.symm; have f5_ := f3_.symm; clear f1_ f2_ f3_; subst f4_; subst f5_))
   refine hK.out _ _ ⟨(blk_cell BK330.out 0).trans rfl, (blk_cell BK330.out 1).trans rfl, (blk_cell BK330.out 2).trans rfl, (blk_cell BK330.out 3).trans rfl, (blk_cell BK330.out 4).trans rfl, (blk_cell BK330.out 5).trans rfl, (blk_cell BK330.out 6).trans rfl⟩ (fun hHeld => ?_)
   clear hK K
   refine norm_ (a' := ?_) ?_ ?_
   rotate_left
   ·show Act.put _ (some 10) _ = _
    simp only [Act.put, List.setIfInBounds_toArray, List.set_cons_zero, List.set_cons_succ, i64_w, i32_w]
    rfl
   refine one_ (i := 2) (N := some 11) #[true, true, true, false, false, false, false, false, false, false, false, false, false, false, false, false, false, false, false] rfl rfl (one_of HT_.out (by kernel_rfl)) (by decide) (fun K hK => ?_)
   refine goes_ Try.func16 (by kernel_rfl) rfl #[.agg #[.int .i64 t331, .string t332, .int .i64 t333, .int .i64 t334, .string t335, .slice Ao38 t336.length co38, .slice Ao39 t339.length co39], .int .i64 1] (by rfl) rfl rfl (by (try simp only [List.map_toArray, List.map_cons, List.map_nil]); first | done | rfl | (simp only [List.length_drop, List.length_take]; rfl)) ?_
   with_reducible refine (columbariumlaw13_nots.calls k t331 t332 t333 t334 t335 (fun k_ => some k_ = (.slice Ao38 t336.length co38 : Value).ownBlock) _ _ t336 (fun k_ => (some k_ ≠ (.slice Ao38 t336.length co38 : Value).ownBlock ∧ (some k_ ≠ (.slice Ao17 t288.length co17 : Value).ownBlock ∧ (some k_ ≠ (.slice Ao18 t291.length co18 : Value).ownBlock ∧ (some k_ ≠ (.slice Ao26 y305.length co26 : Value).ownBlock ∧ k_ ≠ gb330))))) _ _ t339 1 t342 t343 t344 t345 t346 t347 t350 _ ?side1 ?side2 A7.out).mono ?_
   (case side1 => exact Kd.R_V (Kd.R_tight rfl (Kd.R_types (Kd.R_apart' (Kd.R_apart' (Kd.R_apart' (HO338.out) (Kd.N_typed HO293.out) (by decide)) (Kd.N_typed HO307.out) (by decide)) (Kd.N_typed HO341.out) (by decide)) BK330.out (by decide))))
   (case side2 => exact Kd.N_V (HO341.out))
   rintro e w40 ⟨v348, v351, rfl, ho0, ho1, hb⟩
   refine ⟨_, rfl, ?_⟩
   have n0_ := Aside0.mk (Kd.R_below (mR HO290.out) hb)
   have n1_ := Aside0.mk (Kd.N_below (mN HO293.out) hb)
   have n2_ := Aside0.mk (Kd.V_below (mV HO301.out) hb)
   have n3_ := Aside0.mk (Kd.V_below (mV HO304.out) hb)
   have n4_ := Aside0.mk (Kd.N_below (mN HO307.out) hb)
   have n5_ := Aside0.mk (Kd.V_below (mV HO315.out) hb)
   have n6_ := Aside0.mk (Kd.V_below (mV HO318.out) hb)
   have n7_ := Aside0.mk (Kd.V_below (mV HO326.out) hb)
   have n8_ := Aside0.mk (Kd.V_below (mV HO329.out) hb)
   have n9_ := Aside0.mk (Kd.R_below (mR HO338.out) hb)
   have n10_ := Aside0.mk (Kd.N_below (mN HO341.out) hb)
   have n11_ := Aside0.mk (Kd.V_lower (Kd.V_mono (ok' := fun k_ => some k_ ≠ (.slice Ao17 t288.length co17 : Value).ownBlock ∧ some k_ ≠ (.slice Ao18 t291.length co18 : Value).ownBlock ∧ some k_ ≠ (.slice Ao26 y305.length co26 : Value).ownBlock ∧ k_ ≠ gb330) ho0 (fun k_ hk_ => ⟨Or.elim hk_ (fun hs_ => Or.elim hs_ (fun hs_ => ((Kd.R_types (Kd.R_apart' (Kd.R_apart' (Kd.R_apart' (HO338.out) (Kd.N_typed HO293.out) (by decide)) (Kd.N_typed HO307.out) (by decide)) (Kd.N_typed HO341.out) (by decide)) BK330.out (by decide)).1 k_ hs_.symm).1.1.1.1.2) (fun hs_ => hs_.2.1)) (fun hn_ => (Kd.fresh' (Kd.R_lt (mR HO290.out)) k_ hn_)), Or.elim hk_ (fun hs_ => Or.elim hs_ (fun hs_ => ((Kd.R_types (Kd.R_apart' (Kd.R_apart' (Kd.R_apart' (HO338.out) (Kd.N_typed HO293.out) (by decide)) (Kd.N_typed HO307.out) (by decide)) (Kd.N_typed HO341.out) (by decide)) BK330.out (by decide)).1 k_ hs_.symm).1.1.1.2) (fun hs_ => hs_.2.2.1)) (fun hn_ => (Kd.fresh' (Kd.N_lt (mN HO293.out)) k_ hn_)), Or.elim hk_ (fun hs_ => Or.elim hs_ (fun hs_ => ((Kd.R_types (Kd.R_apart' (Kd.R_apart' (Kd.R_apart' (HO338.out) (Kd.N_typed HO293.out) (by decide)) (Kd.N_typed HO307.out) (by decide)) (Kd.N_typed HO341.out) (by decide)) BK330.out (by decide)).1 k_ hs_.symm).1.1.2) (fun hs_ => hs_.2.2.2.1)) (fun hn_ => (Kd.fresh' (Kd.N_lt (mN HO307.out)) k_ hn_)), Or.elim hk_ (fun hs_ => Or.elim hs_ (fun hs_ => ((Kd.R_types (Kd.R_apart' (Kd.R_apart' (Kd.R_apart' (HO338.out) (Kd.N_typed HO293.out) (by decide)) (Kd.N_typed HO307.out) (by decide)) (Kd.N_typed HO341.out) (by decide)) BK330.out (by decide)).1 k_ hs_.symm).2) (fun hs_ => hs_.2.2.2.2)) (fun hn_ => (Kd.freshB (mK BK330.out) k_ hn_))⟩)) (below_size mZ))
   have n12_ := Aside0.mk (Kd.V_lower (Kd.V_mono (ok' := fun k_ => some k_ ≠ (.slice Ao17 t288.length co17 : Value).ownBlock ∧ some k_ ≠ (.slice Ao18 t291.length co18 : Value).ownBlock ∧ some k_ ≠ (.slice Ao26 y305.length co26 : Value).ownBlock ∧ k_ ≠ gb330) ho1 (fun k_ hk_ => ⟨Or.elim hk_ (fun hs_ => Or.elim hs_ (fun hs_ => ((Kd.R_types (Kd.R_apart' (Kd.R_apart' (Kd.R_apart' (HO338.out) (Kd.N_typed HO293.out) (by decide)) (Kd.N_typed HO307.out) (by decide)) (Kd.N_typed HO341.out) (by decide)) BK330.out (by decide)).1 k_ hs_.symm).1.1.1.1.2) (fun hs_ => hs_.2.1)) (fun hn_ => (Kd.fresh' (Kd.R_lt (mR HO290.out)) k_ hn_)), Or.elim hk_ (fun hs_ => Or.elim hs_ (fun hs_ => ((Kd.R_types (Kd.R_apart' (Kd.R_apart' (Kd.R_apart' (HO338.out) (Kd.N_typed HO293.out) (by decide)) (Kd.N_typed HO307.out) (by decide)) (Kd.N_typed HO341.out) (by decide)) BK330.out (by decide)).1 k_ hs_.symm).1.1.1.2) (fun hs_ => hs_.2.2.1)) (fun hn_ => (Kd.fresh' (Kd.N_lt (mN HO293.out)) k_ hn_)), Or.elim hk_ (fun hs_ => Or.elim hs_ (fun hs_ => ((Kd.R_types (Kd.R_apart' (Kd.R_apart' (Kd.R_apart' (HO338.out) (Kd.N_typed HO293.out) (by decide)) (Kd.N_typed HO307.out) (by decide)) (Kd.N_typed HO341.out) (by decide)) BK330.out (by decide)).1 k_ hs_.symm).1.1.2) (fun hs_ => hs_.2.2.2.1)) (fun hn_ => (Kd.fresh' (Kd.N_lt (mN HO307.out)) k_ hn_)), Or.elim hk_ (fun hs_ => Or.elim hs_ (fun hs_ => ((Kd.R_types (Kd.R_apart' (Kd.R_apart' (Kd.R_apart' (HO338.out) (Kd.N_typed HO293.out) (by decide)) (Kd.N_typed HO307.out) (by decide)) (Kd.N_typed HO341.out) (by decide)) BK330.out (by decide)).1 k_ hs_.symm).2) (fun hs_ => hs_.2.2.2.2)) (fun hn_ => (Kd.freshB (mK BK330.out) k_ hn_))⟩)) (below_size mZ))
   have n13_ := Aside0.mk (blk_below (mK BK330.out) hb)
   have n14_ := Aside0.mk (below_step mZ hb)
   clear HO290
   clear HO293
   clear HO301
   clear HO304
   clear HO307
   clear HO315
   clear HO318
   clear HO326
   clear HO329
   clear HO338
   clear HO341
   clear BK330
   clear HB
   have HO290 := n0_
   have HO293 := n1_
   have HO301 := n2_
   have HO304 := n3_
   have HO307 := n4_
   have HO315 := n5_
   have HO318 := n6_
   have HO326 := n7_
   have HO329 := n8_
   have HO338 := n9_
   have HO341 := n10_
   have HO349 := n11_
   have HO352 := n12_
   have BK330 := n13_
   have HB := n14_
   clear n0_ n1_ n2_ n3_ n4_ n5_ n6_ n7_ n8_ n9_ n10_ n11_ n12_ n13_ n14_
   (try clear hb)
   (try clear hb2)
   (try clear hk)
   (try clear hi)
   (try clear ho0)
   (try clear ho1)
   refine hK.out _ _ ⟨(blk_cell BK330.out 0).trans rfl, (blk_cell BK330.out 1).trans rfl, (blk_cell BK330.out 2).trans rfl, (blk_cell BK330.out 3).trans rfl, (blk_cell BK330.out 4).trans rfl, (blk_cell BK330.out 5).trans rfl, (blk_cell BK330.out 6).trans rfl⟩ (fun hHeld => ?_)
   clear hK K
   refine norm_ (a' := ?_) ?_ ?_
   rotate_left
   ·show Act.put _ (some 11) _ = _
    simp only [Act.put, List.setIfInBounds_toArray, List.set_cons_zero, List.set_cons_succ, i64_w, i32_w]
    rfl
   refine one_ (i := 3) (N := some 12) #[true, true, true, true, false, false, false, false, false, false, false, false, false, false, false, false, false, false, false] rfl rfl (one_of HT_.out (by kernel_rfl)) (by decide) (fun K hK => ?_)
   refine goes_ Try.func18 (by kernel_rfl) rfl #[.string (⟨#[121]⟩ : ByteArray)] (by rfl) rfl rfl (by (try simp only [List.map_toArray, List.map_cons, List.map_nil]); first | done | rfl | (simp only [List.length_drop, List.length_take]; rfl)) ?_
   with_reducible refine (columbariumlaw13_null.calls (⟨#[121]⟩ : ByteArray) t353 t354 t355 t356 t357 t358 t361 _ A8.out).mono ?_
   rintro e w41 ⟨v359, v362, rfl, ho0, ho1, hb⟩
   refine ⟨_, rfl, ?_⟩
   (try replace ho1 := Kd.S_N ho1)
   have n0_ := Aside0.mk (Kd.R_elder' (mR HO290.out) (Kd.R_base ho0) hb)
   have n1_ := Aside0.mk (Kd.N_mono (Kd.N_told (Kd.N_told (Kd.N_old (mN HO293.out) hb) (Kd.R_base ho0)) (by first | exact Kd.N_base ho1 | exact Kd.N_base (Kd.R_N ho1))) (fun _ h_ => h_.1))
   have n2_ := Aside0.mk (Kd.V_mono (Kd.V_told (Kd.V_told (Kd.V_old (mV HO301.out) hb) (Kd.R_base ho0)) (by first | exact Kd.N_base ho1 | exact Kd.N_base (Kd.R_N ho1))) (fun _ h_ => h_.1))
   have n3_ := Aside0.mk (Kd.V_mono (Kd.V_told (Kd.V_told (Kd.V_old (mV HO304.out) hb) (Kd.R_base ho0)) (by first | exact Kd.N_base ho1 | exact Kd.N_base (Kd.R_N ho1))) (fun _ h_ => h_.1))
   have n4_ := Aside0.mk (Kd.N_mono (Kd.N_told (Kd.N_told (Kd.N_old (mN HO307.out) hb) (Kd.R_base ho0)) (by first | exact Kd.N_base ho1 | exact Kd.N_base (Kd.R_N ho1))) (fun _ h_ => h_.1))
   have n5_ := Aside0.mk (Kd.V_mono (Kd.V_told (Kd.V_told (Kd.V_old (mV HO315.out) hb) (Kd.R_base ho0)) (by first | exact Kd.N_base ho1 | exact Kd.N_base (Kd.R_N ho1))) (fun _ h_ => h_.1))
   have n6_ := Aside0.mk (Kd.V_mono (Kd.V_told (Kd.V_told (Kd.V_old (mV HO318.out) hb) (Kd.R_base ho0)) (by first | exact Kd.N_base ho1 | exact Kd.N_base (Kd.R_N ho1))) (fun _ h_ => h_.1))
   have n7_ := Aside0.mk (Kd.V_mono (Kd.V_told (Kd.V_told (Kd.V_old (mV HO326.out) hb) (Kd.R_base ho0)) (by first | exact Kd.N_base ho1 | exact Kd.N_base (Kd.R_N ho1))) (fun _ h_ => h_.1))
   have n8_ := Aside0.mk (Kd.V_mono (Kd.V_told (Kd.V_told (Kd.V_old (mV HO329.out) hb) (Kd.R_base ho0)) (by first | exact Kd.N_base ho1 | exact Kd.N_base (Kd.R_N ho1))) (fun _ h_ => h_.1))
   have n9_ := Aside0.mk (Kd.R_elder' (mR HO338.out) (Kd.R_base ho0) hb)
   have n10_ := Aside0.mk (Kd.N_mono (Kd.N_told (Kd.N_told (Kd.N_old (mN HO341.out) hb) (Kd.R_base ho0)) (by first | exact Kd.N_base ho1 | exact Kd.N_base (Kd.R_N ho1))) (fun _ h_ => h_.1))
   have n11_ := Aside0.mk (Kd.V_mono (Kd.V_told (Kd.V_told (Kd.V_old (mV HO349.out) hb) (Kd.R_base ho0)) (by first | exact Kd.N_base ho1 | exact Kd.N_base (Kd.R_N ho1))) (fun _ h_ => h_.1))
   have n12_ := Aside0.mk (Kd.V_mono (Kd.V_told (Kd.V_told (Kd.V_old (mV HO352.out) hb) (Kd.R_base ho0)) (by first | exact Kd.N_base ho1 | exact Kd.N_base (Kd.R_N ho1))) (fun _ h_ => h_.1))
   have n13_ := Aside0.mk (Kd.R_lower (Kd.R_new' (Kd.R_new' ho0 (Kd.R_lt (mR HO290.out))) (Kd.R_lt (mR HO338.out))) (below_size mZ))
   have n14_ := Aside0.mk (Kd.N_lower (Kd.N_mono (ok' := fun k_ => some k_ ≠ (v359 : Value).ownBlock ∧ some k_ ≠ (.slice Ao17 t288.length co17 : Value).ownBlock ∧ some k_ ≠ (.slice Ao18 t291.length co18 : Value).ownBlock ∧ some k_ ≠ (.slice Ao26 y305.length co26 : Value).ownBlock ∧ some k_ ≠ (.slice Ao38 t336.length co38 : Value).ownBlock ∧ some k_ ≠ (.slice Ao39 t339.length co39 : Value).ownBlock ∧ k_ ≠ gb330) (Kd.R_N (Kd.R_bound ho1)) (fun k_ hk_ => ⟨hk_.1, (Kd.fresh' (Kd.R_lt (mR HO290.out)) k_ hk_.2.1), (Kd.fresh' (Kd.N_lt (mN HO293.out)) k_ hk_.2.1), (Kd.fresh' (Kd.N_lt (mN HO307.out)) k_ hk_.2.1), (Kd.fresh' (Kd.R_lt (mR HO338.out)) k_ hk_.2.1), (Kd.fresh' (Kd.N_lt (mN HO341.out)) k_ hk_.2.1), (Kd.freshB (mK BK330.out) k_ hk_.2.1)⟩)) (below_size mZ))
   have n15_ := Aside0.mk (blk_below (mK BK330.out) hb)
   have n16_ := Aside0.mk (below_step mZ hb)
   clear HO290
   clear HO293
   clear HO301
   clear HO304
   clear HO307
   clear HO315
   clear HO318
   clear HO326
   clear HO329
   clear HO338
   clear HO341
   clear HO349
   clear HO352
   clear BK330
   clear HB
   have HO290 := n0_
   have HO293 := n1_
   have HO301 := n2_
   have HO304 := n3_
   have HO307 := n4_
   have HO315 := n5_
   have HO318 := n6_
   have HO326 := n7_
   have HO329 := n8_
   have HO338 := n9_
   have HO341 := n10_
   have HO349 := n11_
   have HO352 := n12_
   have HO360 := n13_
   have HO363 := n14_
   have BK330 := n15_
   have HB := n16_
   clear n0_ n1_ n2_ n3_ n4_ n5_ n6_ n7_ n8_ n9_ n10_ n11_ n12_ n13_ n14_ n15_ n16_
   (try clear hb)
   (try clear hb2)
   (try clear hk)
   (try clear hi)
   (try clear ho0)
   (try clear ho1)
   obtain ⟨Ao42, co42, eo42⟩ := Kd.V_slice HO349.out
   (first | subst eo42 | (injection eo42 with f1_ f2_ f3_; have f4_ := f1_.symm; have f5_ := f3_.symm; clear f1_ f2_ f3_; subst f4_; subst f5_))
   obtain ⟨Ao43, co43, eo43⟩ := Kd.V_slice HO352.out
   (first | subst eo43 | (injection eo43 with f1_ f2_ f3_; have f4_ := f1_.symm; have f5_ := f3_.symm; clear f1_ f2_ f3_; subst f4_; subst f5_))
   obtain ⟨Ao44, co44, eo44⟩ := Kd.R_slice HO360.out
   (first | subst eo44 | (injection eo44 with f1_ f2_ f3_; have f4_ := f1_.symm; have f5_ := f3_.symm; clear f1_ f2_ f3_; subst f4_; subst f5_))
   obtain ⟨Ao45, co45, eo45⟩ := Kd.N_slice HO363.out
   (first | subst eo45 | (injection eo45 with f1_ f2_ f3_; have f4_ := f1_.symm; have f5_ := f3_.symm; clear f1_ f2_ f3_; subst f4_; subst f5_))
   refine hK.out _ _ ⟨(blk_cell BK330.out 0).trans rfl, (blk_cell BK330.out 1).trans rfl, (blk_cell BK330.out 2).trans rfl, (blk_cell BK330.out 3).trans rfl, (blk_cell BK330.out 4).trans rfl, (blk_cell BK330.out 5).trans rfl, (blk_cell BK330.out 6).trans rfl⟩ (fun hHeld => ?_)
   clear hK K
   refine norm_ (a' := ?_) ?_ ?_
   rotate_left
   ·show Act.put _ (some 12) _ = _
    simp only [Act.put, List.setIfInBounds_toArray, List.set_cons_zero, List.set_cons_succ, i64_w, i32_w]
    rfl
   refine one_ (i := 4) (N := some 13) #[true, true, true, true, true, false, false, false, false, false, false, false, false, false, false, false, false, false, false] rfl rfl (one_of HT_.out (by kernel_rfl)) (by decide) (fun K hK => ?_)
   refine Kd.N_lit_step k25 _ 25 ?hg (N' := 13) ?hd (xs := ([(⟨t342, t343, t344, t345, t346, t347, t350⟩ : S25), (⟨t353, t354, t355, t356, t357, t358, t361⟩ : S25)] : List (S25))) (inner := [.int .i64 t342, .string t343, .int .i64 t344, .int .i64 t345, .string t346, .slice Ao42 t347.length co42, .slice Ao43 t350.length co43, .int .i64 t353, .string t354, .int .i64 t355, .int .i64 t356, .string t357, .slice Ao44 t358.length co44, .slice Ao45 t361.length co45]) (ok := (fun k_ => some k_ ≠ (.slice Ao17 t288.length co17 : Value).ownBlock ∧ some k_ ≠ (.slice Ao18 t291.length co18 : Value).ownBlock ∧ some k_ ≠ (.slice Ao26 y305.length co26 : Value).ownBlock ∧ k_ ≠ gb330)) (okp := (fun k_ => some k_ ≠ (.slice Ao17 t288.length co17 : Value).ownBlock ∧ some k_ ≠ (.slice Ao18 t291.length co18 : Value).ownBlock ∧ some k_ ≠ (.slice Ao26 y305.length co26 : Value).ownBlock ∧ k_ ≠ gb330)) ?hr ?hp (fun _ hk => hk) ((show ∀ k_, w41.heap.size ≤ k_ → (fun k_ => some k_ ≠ (.slice Ao17 t288.length co17 : Value).ownBlock ∧ some k_ ≠ (.slice Ao18 t291.length co18 : Value).ownBlock ∧ some k_ ≠ (.slice Ao26 y305.length co26 : Value).ownBlock ∧ k_ ≠ gb330) k_ from fun k_ hk => ⟨Kd.fresh' (Kd.R_lt (mR HO290.out)) k_ hk, Kd.fresh' (Kd.N_lt (mN HO293.out)) k_ hk, Kd.fresh' (Kd.N_lt (mN HO307.out)) k_ hk, Kd.freshB (mK BK330.out) k_ hk⟩) _ (Nat.le_refl _)) (Below.refl _ _) (Nat.le_refl _) (by simp) ?_; (case hd => rfl); (case hg => rfl); (case hr => first | (go_simp; done) | (go_simp; rfl)); (case hp => exact (Reps.c7 (show Kd.FK k25 _ _ (⟨t342, t343, t344, t345, t346, t347, t350⟩ : S25) [.int .i64 t342, .string t343, .int .i64 t344, .int .i64 t345, .string t346, .slice Ao42 t347.length co42, .slice Ao43 t350.length co43] from (k25_mkF _ _ (⟨t342, t343, t344, t345, t346, t347, t350⟩ : S25) (Kd.V_reads' (Kd.V_mono (ok' := (fun k_ => some k_ ≠ (.slice Ao17 t288.length co17 : Value).ownBlock ∧ some k_ ≠ (.slice Ao18 t291.length co18 : Value).ownBlock ∧ some k_ ≠ (.slice Ao26 y305.length co26 : Value).ownBlock ∧ k_ ≠ gb330)) (HO349.out) (fun k_ hk => ⟨hk.1.1.1, ⟨hk.1.1.2.1, ⟨hk.1.1.2.2.1, hk.1.1.2.2.2⟩⟩⟩))).2.1 (Kd.V_F (by (with_reducible repeat (first | apply Kd.V_alloc | apply Kd.V_drewN | apply Kd.V_drew)); exact (Kd.V_mono (ok' := (fun k_ => some k_ ≠ (.slice Ao17 t288.length co17 : Value).ownBlock ∧ some k_ ≠ (.slice Ao18 t291.length co18 : Value).ownBlock ∧ some k_ ≠ (.slice Ao26 y305.length co26 : Value).ownBlock ∧ k_ ≠ gb330)) (HO349.out) (fun k_ hk => ⟨hk.1.1.1, ⟨hk.1.1.2.1, ⟨hk.1.1.2.2.1, hk.1.1.2.2.2⟩⟩⟩)))) (Kd.V_reads' (Kd.V_mono (ok' := (fun k_ => some k_ ≠ (.slice Ao17 t288.length co17 : Value).ownBlock ∧ some k_ ≠ (.slice Ao18 t291.length co18 : Value).ownBlock ∧ some k_ ≠ (.slice Ao26 y305.length co26 : Value).ownBlock ∧ k_ ≠ gb330)) (HO352.out) (fun k_ hk => ⟨hk.1.1.1, ⟨hk.1.1.2.1, ⟨hk.1.1.2.2.1, hk.1.1.2.2.2⟩⟩⟩))).2.1 (Kd.V_F (by (with_reducible repeat (first | apply Kd.V_alloc | apply Kd.V_drewN | apply Kd.V_drew)); exact (Kd.V_mono (ok' := (fun k_ => some k_ ≠ (.slice Ao17 t288.length co17 : Value).ownBlock ∧ some k_ ≠ (.slice Ao18 t291.length co18 : Value).ownBlock ∧ some k_ ≠ (.slice Ao26 y305.length co26 : Value).ownBlock ∧ k_ ≠ gb330)) (HO352.out) (fun k_ hk => ⟨hk.1.1.1, ⟨hk.1.1.2.1, ⟨hk.1.1.2.2.1, hk.1.1.2.2.2⟩⟩⟩)))))) (Reps.c7 (show Kd.FK k25 _ _ (⟨t353, t354, t355, t356, t357, t358, t361⟩ : S25) [.int .i64 t353, .string t354, .int .i64 t355, .int .i64 t356, .string t357, .slice Ao44 t358.length co44, .slice Ao45 t361.length co45] from (k25_mkF _ _ (⟨t353, t354, t355, t356, t357, t358, t361⟩ : S25) (Kd.R_reads' (Kd.R_mono (ok' := (fun k_ => some k_ ≠ (.slice Ao17 t288.length co17 : Value).ownBlock ∧ some k_ ≠ (.slice Ao18 t291.length co18 : Value).ownBlock ∧ some k_ ≠ (.slice Ao26 y305.length co26 : Value).ownBlock ∧ k_ ≠ gb330)) (Kd.R_types (Kd.R_apart' (Kd.R_apart' (HO360.out) (Kd.N_typed HO293.out) (by decide)) (Kd.N_typed HO307.out) (by decide)) BK330.out (by decide)) (fun k_ hk => ⟨hk.1.1.1.1.2, ⟨hk.1.1.2, ⟨hk.1.2, hk.2⟩⟩⟩))).2.1 (Kd.R_F (by (with_reducible repeat (first | apply Kd.R_alloc | apply Kd.R_drewN | apply Kd.R_drew)); exact (Kd.R_mono (ok' := (fun k_ => some k_ ≠ (.slice Ao17 t288.length co17 : Value).ownBlock ∧ some k_ ≠ (.slice Ao18 t291.length co18 : Value).ownBlock ∧ some k_ ≠ (.slice Ao26 y305.length co26 : Value).ownBlock ∧ k_ ≠ gb330)) (Kd.R_types (Kd.R_apart' (Kd.R_apart' (HO360.out) (Kd.N_typed HO293.out) (by decide)) (Kd.N_typed HO307.out) (by decide)) BK330.out (by decide)) (fun k_ hk => ⟨hk.1.1.1.1.2, ⟨hk.1.1.2, ⟨hk.1.2, hk.2⟩⟩⟩)))) (Kd.N_reads' (Kd.N_mono (ok' := (fun k_ => some k_ ≠ (.slice Ao17 t288.length co17 : Value).ownBlock ∧ some k_ ≠ (.slice Ao18 t291.length co18 : Value).ownBlock ∧ some k_ ≠ (.slice Ao26 y305.length co26 : Value).ownBlock ∧ k_ ≠ gb330)) (HO363.out) (fun k_ hk => ⟨hk.2.1, ⟨hk.2.2.1, ⟨hk.2.2.2.1, hk.2.2.2.2.2.2⟩⟩⟩))).2.1 (Kd.N_F (by (with_reducible repeat (first | apply Kd.N_alloc | apply Kd.N_drewN | apply Kd.N_drew)); exact (Kd.N_mono (ok' := (fun k_ => some k_ ≠ (.slice Ao17 t288.length co17 : Value).ownBlock ∧ some k_ ≠ (.slice Ao18 t291.length co18 : Value).ownBlock ∧ some k_ ≠ (.slice Ao26 y305.length co26 : Value).ownBlock ∧ k_ ≠ gb330)) (HO363.out) (fun k_ hk => ⟨hk.2.1, ⟨hk.2.2.1, ⟨hk.2.2.2.1, hk.2.2.2.2.2.2⟩⟩⟩)))))) (Reps.none _ _))))
   intro v365 w46 ho47 hb hg_ hnew_
   clear hg_ hnew_
   (first | rw [← Ny364.out] at ho47 | (simp only [Int.reduceToNat] at ho47; rw [← Ny364.out] at ho47))
   have n0_ := Aside0.mk (Kd.R_below (mR HO290.out) hb)
   have n1_ := Aside0.mk (Kd.N_elder' (mN HO293.out) (by first | exact Kd.N_base ho47 | exact Kd.N_base (Kd.R_N ho47)) hb)
   have n2_ := Aside0.mk (Kd.V_elder' (mV HO301.out) (by first | exact Kd.N_base ho47 | exact Kd.N_base (Kd.R_N ho47)) hb)
   have n3_ := Aside0.mk (Kd.V_elder' (mV HO304.out) (by first | exact Kd.N_base ho47 | exact Kd.N_base (Kd.R_N ho47)) hb)
   have n4_ := Aside0.mk (Kd.N_elder' (mN HO307.out) (by first | exact Kd.N_base ho47 | exact Kd.N_base (Kd.R_N ho47)) hb)
   have n5_ := Aside0.mk (Kd.V_elder' (mV HO315.out) (by first | exact Kd.N_base ho47 | exact Kd.N_base (Kd.R_N ho47)) hb)
   have n6_ := Aside0.mk (Kd.V_elder' (mV HO318.out) (by first | exact Kd.N_base ho47 | exact Kd.N_base (Kd.R_N ho47)) hb)
   have n7_ := Aside0.mk (Kd.V_elder' (mV HO326.out) (by first | exact Kd.N_base ho47 | exact Kd.N_base (Kd.R_N ho47)) hb)
   have n8_ := Aside0.mk (Kd.V_elder' (mV HO329.out) (by first | exact Kd.N_base ho47 | exact Kd.N_base (Kd.R_N ho47)) hb)
   have n9_ := Aside0.mk (Kd.R_below (mR HO338.out) hb)
   have n10_ := Aside0.mk (Kd.N_elder' (mN HO341.out) (by first | exact Kd.N_base ho47 | exact Kd.N_base (Kd.R_N ho47)) hb)
   have n11_ := Aside0.mk (Kd.V_elder' (mV HO349.out) (by first | exact Kd.N_base ho47 | exact Kd.N_base (Kd.R_N ho47)) hb)
   have n12_ := Aside0.mk (Kd.V_elder' (mV HO352.out) (by first | exact Kd.N_base ho47 | exact Kd.N_base (Kd.R_N ho47)) hb)
   have n13_ := Aside0.mk (Kd.N_lower ho47 (below_size mZ))
   have n14_ := Aside0.mk (blk_below (mK BK330.out) hb)
   have n15_ := Aside0.mk (below_step mZ hb)
   clear HO290
   clear HO293
   clear HO301
   clear HO304
   clear HO307
   clear HO315
   clear HO318
   clear HO326
   clear HO329
   clear HO338
   clear HO341
   clear HO349
   clear HO352
   clear BK330
   clear HB
   clear HO360
   clear HO363
   have HO290 := n0_
   have HO293 := n1_
   have HO301 := n2_
   have HO304 := n3_
   have HO307 := n4_
   have HO315 := n5_
   have HO318 := n6_
   have HO326 := n7_
   have HO329 := n8_
   have HO338 := n9_
   have HO341 := n10_
   have HO349 := n11_
   have HO352 := n12_
   have HO366 := n13_
   have BK330 := n14_
   have HB := n15_
   clear n0_ n1_ n2_ n3_ n4_ n5_ n6_ n7_ n8_ n9_ n10_ n11_ n12_ n13_ n14_ n15_
   clear hb ho47
   obtain ⟨Ao48, co48, eo48⟩ := Kd.N_slice HO366.out
   (first | subst eo48 | (injection eo48 with f1_ f2_ f3_; have f4_ := f1_.symm; have f5_ := f3_.symm; clear f1_ f2_ f3_; subst f4_; subst f5_))
   refine hK.out _ _ ⟨(blk_cell BK330.out 0).trans rfl, (blk_cell BK330.out 1).trans rfl, (blk_cell BK330.out 2).trans rfl, (blk_cell BK330.out 3).trans rfl, (blk_cell BK330.out 4).trans rfl, (blk_cell BK330.out 5).trans rfl, (blk_cell BK330.out 6).trans rfl⟩ (fun hHeld => ?_)
   clear hK K
   refine norm_ (a' := ?_) ?_ ?_
   rotate_left
   ·show Act.put _ (some 13) _ = _
    simp only [Act.put, List.setIfInBounds_toArray, List.set_cons_zero, List.set_cons_succ, i64_w, i32_w]
    rfl
   refine pure_ (i := 5) (N := some 14) (v := ?_) (a' := ?_) #[true, true, true, true, true, true, false, false, false, false, false, false, false, false, false, false, false, false, false] rfl rfl (any_of HT_.out (by kernel_rfl)) (fun _ _ _ h => h) (Or.inl ⟨by rfl, ?_⟩) ?_ ?_
   rotate_left
   ·intro w'
    go_simp
    with_reducible rfl
   rotate_left
   ·simp only [Act.put, List.setIfInBounds_toArray, List.set_cons_zero, List.set_cons_succ, i64_w, i32_w]
    rfl
   refine one_ (i := 6) (N := some 15) #[true, true, true, true, true, true, true, false, false, false, false, false, false, false, false, false, false, false, false] rfl rfl (one_of HT_.out (by kernel_rfl)) (by decide) (fun K hK => ?_)
   refine goes_ Try.func9 (by kernel_rfl) rfl #[.agg #[.int .i64 t319, .string t320, .int .i64 t321, .int .i64 t322, .string t323, .slice Ao33 t324.length co33, .slice Ao34 t327.length co34], .agg #[.int .i64 2, .string (⟨#[]⟩ : ByteArray), .int .i64 0, .int .i64 0, .string (⟨#[]⟩ : ByteArray), .slice none 0 0, .slice Ao48 y364.length co48]] (by rfl) rfl rfl (by (try simp only [List.map_toArray, List.map_cons, List.map_nil]); first | done | rfl | (simp only [List.length_drop, List.length_take]; rfl)) ?_
   refine (columbariumkeep_Pred.calls k t319 t320 t321 t322 t323 _ _ t324 _ _ t327 2 (⟨#[]⟩ : ByteArray) 0 0 (⟨#[]⟩ : ByteArray) _ _ ([] : List ByteArray) _ _ y364 true _ ?side1 ?side2 ?side3 ?side4 ?side5 ?side6 ?side7 ?side8 A9.out).mono ?_
   (case side1 => repeat (first | exact (Kd.V_reads' HO326.out).2.2 | (with_reducible refine Kd.C_alloc ?_ _) | (with_reducible refine Kd.C_drewN ?_ _) | (with_reducible refine Kd.C_drew ?_)))
   (case side2 => exact (Kd.V_reads' HO326.out).2.1)
   (case side3 => repeat (first | exact (Kd.V_reads' HO329.out).2.2 | (with_reducible refine Kd.C_alloc ?_ _) | (with_reducible refine Kd.C_drewN ?_ _) | (with_reducible refine Kd.C_drew ?_)))
   (case side4 => exact (Kd.V_reads' HO329.out).2.1)
   (case side5 => exact Kd.C_nil _ _)
   (case side6 => exact Nat.le_refl _)
   (case side7 => repeat (first | exact (Kd.N_reads' HO366.out).2.2 | (with_reducible refine Kd.C_alloc ?_ _) | (with_reducible refine Kd.C_drewN ?_ _) | (with_reducible refine Kd.C_drew ?_)))
   (case side8 => exact (Kd.N_reads' HO366.out).2.1)
   rintro e w49 ⟨rfl, hb⟩
   refine ⟨_, rfl, ?_⟩
   have n0_ := Aside0.mk (Kd.R_below (mR HO290.out) hb)
   have n1_ := Aside0.mk (Kd.N_below (mN HO293.out) hb)
   have n2_ := Aside0.mk (Kd.V_below (mV HO301.out) hb)
   have n3_ := Aside0.mk (Kd.V_below (mV HO304.out) hb)
   have n4_ := Aside0.mk (Kd.N_below (mN HO307.out) hb)
   have n5_ := Aside0.mk (Kd.V_below (mV HO315.out) hb)
   have n6_ := Aside0.mk (Kd.V_below (mV HO318.out) hb)
   have n7_ := Aside0.mk (Kd.V_below (mV HO326.out) hb)
   have n8_ := Aside0.mk (Kd.V_below (mV HO329.out) hb)
   have n9_ := Aside0.mk (Kd.R_below (mR HO338.out) hb)
   have n10_ := Aside0.mk (Kd.N_below (mN HO341.out) hb)
   have n11_ := Aside0.mk (Kd.V_below (mV HO349.out) hb)
   have n12_ := Aside0.mk (Kd.V_below (mV HO352.out) hb)
   have n13_ := Aside0.mk (Kd.N_below (mN HO366.out) hb)
   have n14_ := Aside0.mk (blk_below (mK BK330.out) hb)
   have n15_ := Aside0.mk (below_step mZ hb)
   clear HO290
   clear HO293
   clear HO301
   clear HO304
   clear HO307
   clear HO315
   clear HO318
   clear HO326
   clear HO329
   clear HO338
   clear HO341
   clear HO349
   clear HO352
   clear HO366
   clear BK330
   clear HB
   have HO290 := n0_
   have HO293 := n1_
   have HO301 := n2_
   have HO304 := n3_
   have HO307 := n4_
   have HO315 := n5_
   have HO318 := n6_
   have HO326 := n7_
   have HO329 := n8_
   have HO338 := n9_
   have HO341 := n10_
   have HO349 := n11_
   have HO352 := n12_
   have HO366 := n13_
   have BK330 := n14_
   have HB := n15_
   clear n0_ n1_ n2_ n3_ n4_ n5_ n6_ n7_ n8_ n9_ n10_ n11_ n12_ n13_ n14_ n15_
   (try clear hb)
   (try clear hb2)
   (try clear hk)
   (try clear hi)
   refine hK.out _ _ ⟨(blk_cell BK330.out 0).trans rfl, (blk_cell BK330.out 1).trans rfl, (blk_cell BK330.out 2).trans rfl, (blk_cell BK330.out 3).trans rfl, (blk_cell BK330.out 4).trans rfl, (blk_cell BK330.out 5).trans rfl, (blk_cell BK330.out 6).trans rfl⟩ (fun hHeld => ?_)
   clear hK K
   refine norm_ (a' := ?_) ?_ ?_
   rotate_left
   ·show Act.put _ (some 15) _ = _
    simp only [Act.put, List.setIfInBounds_toArray, List.set_cons_zero, List.set_cons_succ, i64_w, i32_w]
    rfl
   refine pure_ (i := 7) (N := some 16) (v := ?_) (a' := ?_) #[true, true, true, true, true, true, true, true, false, false, false, false, false, false, false, false, false, false, false] rfl rfl (any_of HT_.out (by kernel_rfl)) (fun _ _ _ h => h) (Or.inl ⟨by rfl, ?_⟩) ?_ ?_
   rotate_left
   ·intro w'
    go_simp
    with_reducible rfl
   rotate_left
   ·simp only [Act.put, List.setIfInBounds_toArray, List.set_cons_zero, List.set_cons_succ, i64_w, i32_w]
    rfl
   refine pure_ (i := 9) (N := some 18) (v := ?_) (a' := ?_) #[true, true, true, true, true, true, true, true, false, true, false, false, false, false, false, false, false, false, false] rfl rfl (any_of HT_.out (by kernel_rfl)) (fun _ _ _ h => h) (Or.inl ⟨by rfl, ?_⟩) ?_ ?_
   rotate_left
   ·intro w'
    go_simp
    with_reducible rfl
   rotate_left
   ·simp only [Act.put, List.setIfInBounds_toArray, List.set_cons_zero, List.set_cons_succ, i64_w, i32_w]
    rfl
   refine one_ (i := 8) (N := some 17) #[true, true, true, true, true, true, true, true, true, true, false, false, false, false, false, false, false, false, false] rfl rfl (one_of HT_.out (by kernel_rfl)) (by decide) (fun K hK => ?_)
   refine goes_ Try.func29 (by kernel_rfl) rfl #[] (by rfl) rfl rfl (by (try simp only [List.map_toArray, List.map_cons, List.map_nil]); first | done | rfl | (simp only [List.length_drop, List.length_take]; rfl)) ?_
   with_reducible refine (columbariumkeep_Everything.calls  t368 t369 t370 t371 t372 t373 t376 _ A11.out).mono ?_
   rintro e w50 ⟨v374, v377, rfl, ho0, ho1, hb⟩
   refine ⟨_, rfl, ?_⟩
   (try replace ho1 := Kd.S_N ho1)
   have n0_ := Aside0.mk (Kd.R_elder' (mR HO290.out) (Kd.R_base ho0) hb)
   have n1_ := Aside0.mk (Kd.N_mono (Kd.N_told (Kd.N_told (Kd.N_old (mN HO293.out) hb) (Kd.R_base ho0)) (by first | exact Kd.N_base ho1 | exact Kd.N_base (Kd.R_N ho1))) (fun _ h_ => h_.1))
   have n2_ := Aside0.mk (Kd.V_mono (Kd.V_told (Kd.V_told (Kd.V_old (mV HO301.out) hb) (Kd.R_base ho0)) (by first | exact Kd.N_base ho1 | exact Kd.N_base (Kd.R_N ho1))) (fun _ h_ => h_.1))
   have n3_ := Aside0.mk (Kd.V_mono (Kd.V_told (Kd.V_told (Kd.V_old (mV HO304.out) hb) (Kd.R_base ho0)) (by first | exact Kd.N_base ho1 | exact Kd.N_base (Kd.R_N ho1))) (fun _ h_ => h_.1))
   have n4_ := Aside0.mk (Kd.N_mono (Kd.N_told (Kd.N_told (Kd.N_old (mN HO307.out) hb) (Kd.R_base ho0)) (by first | exact Kd.N_base ho1 | exact Kd.N_base (Kd.R_N ho1))) (fun _ h_ => h_.1))
   have n5_ := Aside0.mk (Kd.V_mono (Kd.V_told (Kd.V_told (Kd.V_old (mV HO315.out) hb) (Kd.R_base ho0)) (by first | exact Kd.N_base ho1 | exact Kd.N_base (Kd.R_N ho1))) (fun _ h_ => h_.1))
   have n6_ := Aside0.mk (Kd.V_mono (Kd.V_told (Kd.V_told (Kd.V_old (mV HO318.out) hb) (Kd.R_base ho0)) (by first | exact Kd.N_base ho1 | exact Kd.N_base (Kd.R_N ho1))) (fun _ h_ => h_.1))
   have n7_ := Aside0.mk (Kd.V_mono (Kd.V_told (Kd.V_told (Kd.V_old (mV HO326.out) hb) (Kd.R_base ho0)) (by first | exact Kd.N_base ho1 | exact Kd.N_base (Kd.R_N ho1))) (fun _ h_ => h_.1))
   have n8_ := Aside0.mk (Kd.V_mono (Kd.V_told (Kd.V_told (Kd.V_old (mV HO329.out) hb) (Kd.R_base ho0)) (by first | exact Kd.N_base ho1 | exact Kd.N_base (Kd.R_N ho1))) (fun _ h_ => h_.1))
   have n9_ := Aside0.mk (Kd.R_elder' (mR HO338.out) (Kd.R_base ho0) hb)
   have n10_ := Aside0.mk (Kd.N_mono (Kd.N_told (Kd.N_told (Kd.N_old (mN HO341.out) hb) (Kd.R_base ho0)) (by first | exact Kd.N_base ho1 | exact Kd.N_base (Kd.R_N ho1))) (fun _ h_ => h_.1))
   have n11_ := Aside0.mk (Kd.V_mono (Kd.V_told (Kd.V_told (Kd.V_old (mV HO349.out) hb) (Kd.R_base ho0)) (by first | exact Kd.N_base ho1 | exact Kd.N_base (Kd.R_N ho1))) (fun _ h_ => h_.1))
   have n12_ := Aside0.mk (Kd.V_mono (Kd.V_told (Kd.V_told (Kd.V_old (mV HO352.out) hb) (Kd.R_base ho0)) (by first | exact Kd.N_base ho1 | exact Kd.N_base (Kd.R_N ho1))) (fun _ h_ => h_.1))
   have n13_ := Aside0.mk (Kd.N_mono (Kd.N_told (Kd.N_told (Kd.N_old (mN HO366.out) hb) (Kd.R_base ho0)) (by first | exact Kd.N_base ho1 | exact Kd.N_base (Kd.R_N ho1))) (fun _ h_ => h_.1))
   have n14_ := Aside0.mk (Kd.R_lower (Kd.R_new' (Kd.R_new' ho0 (Kd.R_lt (mR HO290.out))) (Kd.R_lt (mR HO338.out))) (below_size mZ))
   have n15_ := Aside0.mk (Kd.N_lower (Kd.N_mono (ok' := fun k_ => some k_ ≠ (v374 : Value).ownBlock ∧ some k_ ≠ (.slice Ao17 t288.length co17 : Value).ownBlock ∧ some k_ ≠ (.slice Ao18 t291.length co18 : Value).ownBlock ∧ some k_ ≠ (.slice Ao26 y305.length co26 : Value).ownBlock ∧ some k_ ≠ (.slice Ao38 t336.length co38 : Value).ownBlock ∧ some k_ ≠ (.slice Ao39 t339.length co39 : Value).ownBlock ∧ some k_ ≠ (.slice Ao48 y364.length co48 : Value).ownBlock ∧ k_ ≠ gb330) (Kd.R_N (Kd.R_bound ho1)) (fun k_ hk_ => ⟨hk_.1, (Kd.fresh' (Kd.R_lt (mR HO290.out)) k_ hk_.2.1), (Kd.fresh' (Kd.N_lt (mN HO293.out)) k_ hk_.2.1), (Kd.fresh' (Kd.N_lt (mN HO307.out)) k_ hk_.2.1), (Kd.fresh' (Kd.R_lt (mR HO338.out)) k_ hk_.2.1), (Kd.fresh' (Kd.N_lt (mN HO341.out)) k_ hk_.2.1), (Kd.fresh' (Kd.N_lt (mN HO366.out)) k_ hk_.2.1), (Kd.freshB (mK BK330.out) k_ hk_.2.1)⟩)) (below_size mZ))
   have n16_ := Aside0.mk (blk_below (mK BK330.out) hb)
   have n17_ := Aside0.mk (below_step mZ hb)
   clear HO290
   clear HO293
   clear HO301
   clear HO304
   clear HO307
   clear HO315
   clear HO318
   clear HO326
   clear HO329
   clear HO338
   clear HO341
   clear HO349
   clear HO352
   clear HO366
   clear BK330
   clear HB
   have HO290 := n0_
   have HO293 := n1_
   have HO301 := n2_
   have HO304 := n3_
   have HO307 := n4_
   have HO315 := n5_
   have HO318 := n6_
   have HO326 := n7_
   have HO329 := n8_
   have HO338 := n9_
   have HO341 := n10_
   have HO349 := n11_
   have HO352 := n12_
   have HO366 := n13_
   have HO375 := n14_
   have HO378 := n15_
   have BK330 := n16_
   have HB := n17_
   clear n0_ n1_ n2_ n3_ n4_ n5_ n6_ n7_ n8_ n9_ n10_ n11_ n12_ n13_ n14_ n15_ n16_ n17_
   (try clear hb)
   (try clear hb2)
   (try clear hk)
   (try clear hi)
   (try clear ho0)
   (try clear ho1)
   obtain ⟨Ao51, co51, eo51⟩ := Kd.R_slice HO375.out
   (first | subst eo51 | (injection eo51 with f1_ f2_ f3_; have f4_ := f1_.symm; have f5_ := f3_.symm; clear f1_ f2_ f3_; subst f4_; subst f5_))
   obtain ⟨Ao52, co52, eo52⟩ := Kd.N_slice HO378.out
   (first | subst eo52 | (injection eo52 with f1_ f2_ f3_; have f4_ := f1_.symm; have f5_ := f3_.symm; clear f1_ f2_ f3_; subst f4_; subst f5_))
   refine hK.out _ _ ⟨(blk_cell BK330.out 0).trans rfl, (blk_cell BK330.out 1).trans rfl, (blk_cell BK330.out 2).trans rfl, (blk_cell BK330.out 3).trans rfl, (blk_cell BK330.out 4).trans rfl, (blk_cell BK330.out 5).trans rfl, (blk_cell BK330.out 6).trans rfl⟩ (fun hHeld => ?_)
   clear hK K
   refine norm_ (a' := ?_) ?_ ?_
   rotate_left
   ·show Act.put _ (some 17) _ = _
    simp only [Act.put, List.setIfInBounds_toArray, List.set_cons_zero, List.set_cons_succ, i64_w, i32_w]
    rfl
   refine one_ (i := 10) (N := some 19) #[true, true, true, true, true, true, true, true, true, true, true, false, false, false, false, false, false, false, false] rfl rfl (one_of HT_.out (by kernel_rfl)) (by decide) (fun K hK => ?_)
   refine goes_ Try.func15 (by kernel_rfl) rfl #[.agg #[.int .i64 t368, .string t369, .int .i64 t370, .int .i64 t371, .string t372, .slice Ao51 t373.length co51, .slice Ao52 t376.length co52], .agg #[.int .i64 0, .int .i64 0, .slice none 0 0]] (by rfl) rfl rfl (by (try simp only [List.map_toArray, List.map_cons, List.map_nil]); first | done | rfl | (simp only [List.length_drop, List.length_take]; rfl)) ?_
   refine (pred_Eval.calls k t368 t369 t370 t371 t372 _ _ t373 _ _ t376 0 0 _ _ ([] : List (S52)) true _ ?side1 ?side2 ?side3 ?side4 ?side5 ?side6 A12.out).mono ?_
   (case side1 => repeat (first | exact (Kd.R_reads' HO375.out).2.2 | (with_reducible refine Kd.C_alloc ?_ _) | (with_reducible refine Kd.C_drewN ?_ _) | (with_reducible refine Kd.C_drew ?_)))
   (case side2 => exact (Kd.R_reads' HO375.out).2.1)
   (case side3 => repeat (first | exact (Kd.N_reads' HO378.out).2.2 | (with_reducible refine Kd.C_alloc ?_ _) | (with_reducible refine Kd.C_drewN ?_ _) | (with_reducible refine Kd.C_drew ?_)))
   (case side4 => exact (Kd.N_reads' HO378.out).2.1)
   (case side5 => exact Kd.C_nil _ _)
   (case side6 => exact Nat.le_refl _)
   rintro e w53 ⟨rfl, hb⟩
   refine ⟨_, rfl, ?_⟩
   have n0_ := Aside0.mk (Kd.R_below (mR HO290.out) hb)
   have n1_ := Aside0.mk (Kd.N_below (mN HO293.out) hb)
   have n2_ := Aside0.mk (Kd.V_below (mV HO301.out) hb)
   have n3_ := Aside0.mk (Kd.V_below (mV HO304.out) hb)
   have n4_ := Aside0.mk (Kd.N_below (mN HO307.out) hb)
   have n5_ := Aside0.mk (Kd.V_below (mV HO315.out) hb)
   have n6_ := Aside0.mk (Kd.V_below (mV HO318.out) hb)
   have n7_ := Aside0.mk (Kd.V_below (mV HO326.out) hb)
   have n8_ := Aside0.mk (Kd.V_below (mV HO329.out) hb)
   have n9_ := Aside0.mk (Kd.R_below (mR HO338.out) hb)
   have n10_ := Aside0.mk (Kd.N_below (mN HO341.out) hb)
   have n11_ := Aside0.mk (Kd.V_below (mV HO349.out) hb)
   have n12_ := Aside0.mk (Kd.V_below (mV HO352.out) hb)
   have n13_ := Aside0.mk (Kd.N_below (mN HO366.out) hb)
   have n14_ := Aside0.mk (Kd.R_below (mR HO375.out) hb)
   have n15_ := Aside0.mk (Kd.N_below (mN HO378.out) hb)
   have n16_ := Aside0.mk (blk_below (mK BK330.out) hb)
   have n17_ := Aside0.mk (below_step mZ hb)
   clear HO290
   clear HO293
   clear HO301
   clear HO304
   clear HO307
   clear HO315
   clear HO318
   clear HO326
   clear HO329
   clear HO338
   clear HO341
   clear HO349
   clear HO352
   clear HO366
   clear HO375
   clear HO378
   clear BK330
   clear HB
   have HO290 := n0_
   have HO293 := n1_
   have HO301 := n2_
   have HO304 := n3_
   have HO307 := n4_
   have HO315 := n5_
   have HO318 := n6_
   have HO326 := n7_
   have HO329 := n8_
   have HO338 := n9_
   have HO341 := n10_
   have HO349 := n11_
   have HO352 := n12_
   have HO366 := n13_
   have HO375 := n14_
   have HO378 := n15_
   have BK330 := n16_
   have HB := n17_
   clear n0_ n1_ n2_ n3_ n4_ n5_ n6_ n7_ n8_ n9_ n10_ n11_ n12_ n13_ n14_ n15_ n16_ n17_
   (try clear hb)
   (try clear hb2)
   (try clear hk)
   (try clear hi)
   refine hK.out _ _ ⟨(blk_cell BK330.out 0).trans rfl, (blk_cell BK330.out 1).trans rfl, (blk_cell BK330.out 2).trans rfl, (blk_cell BK330.out 3).trans rfl, (blk_cell BK330.out 4).trans rfl, (blk_cell BK330.out 5).trans rfl, (blk_cell BK330.out 6).trans rfl⟩ (fun hHeld => ?_)
   clear hK K
   refine norm_ (a' := ?_) ?_ ?_
   rotate_left
   ·show Act.put _ (some 19) _ = _
    simp only [Act.put, List.setIfInBounds_toArray, List.set_cons_zero, List.set_cons_succ, i64_w, i32_w]
    rfl
   refine pure_ (i := 11) (N := some 20) (v := ?_) (a' := ?_) #[true, true, true, true, true, true, true, true, true, true, true, true, false, false, false, false, false, false, false] rfl rfl (any_of HT_.out (by kernel_rfl)) (fun _ _ _ h => h) (Or.inl ⟨by rfl, ?_⟩) ?_ ?_
   rotate_left
   ·intro w'
    go_simp
    with_reducible rfl
   rotate_left
   ·simp only [Act.put, List.setIfInBounds_toArray, List.set_cons_zero, List.set_cons_succ, i64_w, i32_w]
    rfl
   refine pure_ (i := 12) (N := some 21) (v := ?_) (a' := ?_) #[true, true, true, true, true, true, true, true, true, true, true, true, true, false, false, false, false, false, false] rfl rfl (any_of HT_.out (by kernel_rfl)) (fun _ _ _ h => h) (Or.inl ⟨by rfl, ?_⟩) ?_ ?_
   rotate_left
   ·intro w'
    go_simp
    with_reducible rfl
   rotate_left
   ·simp only [Act.put, List.setIfInBounds_toArray, List.set_cons_zero, List.set_cons_succ, i64_w, i32_w]
    rfl
   refine pure_ (i := 13) (N := some 22) (v := ?_) (a' := ?_) #[true, true, true, true, true, true, true, true, true, true, true, true, true, true, false, false, false, false, false] rfl rfl (any_of HT_.out (by kernel_rfl)) (fun _ _ _ h => h) (Or.inl ⟨by rfl, ?_⟩) ?_ ?_
   rotate_left
   ·intro w'
    go_simp
    with_reducible rfl
   rotate_left
   ·simp only [Act.put, List.setIfInBounds_toArray, List.set_cons_zero, List.set_cons_succ, i64_w, i32_w]
    rfl
   refine pure_ (i := 14) (N := some 23) (v := ?_) (a' := ?_) #[true, true, true, true, true, true, true, true, true, true, true, true, true, true, true, false, false, false, false] rfl rfl (any_of HT_.out (by kernel_rfl)) (fun _ _ _ h => h) (Or.inl ⟨by rfl, ?_⟩) ?_ ?_
   rotate_left
   ·intro w'
    go_simp
    with_reducible rfl
   rotate_left
   ·simp only [Act.put, List.setIfInBounds_toArray, List.set_cons_zero, List.set_cons_succ, i64_w, i32_w]
    rfl
   refine one_ (i := 15) (N := some 24) #[true, true, true, true, true, true, true, true, true, true, true, true, true, true, true, true, false, false, false] rfl rfl (one_of HT_.out (by kernel_rfl)) (by decide) (fun K hK => ?_)
   refine goes_ Try.func15 (by kernel_rfl) rfl #[.agg #[.int .i64 2, .string (⟨#[]⟩ : ByteArray), .int .i64 0, .int .i64 0, .string (⟨#[]⟩ : ByteArray), .slice none 0 0, .slice none 0 0], .agg #[.int .i64 0, .int .i64 0, .slice none 0 0]] (by rfl) rfl rfl (by (try simp only [List.map_toArray, List.map_cons, List.map_nil]); first | done | rfl | (simp only [List.length_drop, List.length_take]; rfl)) ?_
   refine (pred_Eval.calls k 2 (⟨#[]⟩ : ByteArray) 0 0 (⟨#[]⟩ : ByteArray) _ _ ([] : List ByteArray) _ _ ([] : List (S25)) 0 0 _ _ ([] : List (S52)) t380 _ ?side1 ?side2 ?side3 ?side4 ?side5 ?side6 A14.out).mono ?_
   (case side1 => exact Kd.C_nil _ _)
   (case side2 => exact Nat.le_refl _)
   (case side3 => exact Kd.C_nil _ _)
   (case side4 => exact Nat.le_refl _)
   (case side5 => exact Kd.C_nil _ _)
   (case side6 => exact Nat.le_refl _)
   rintro e w54 ⟨rfl, hb⟩
   refine ⟨_, rfl, ?_⟩
   have n0_ := Aside0.mk (Kd.R_below (mR HO290.out) hb)
   have n1_ := Aside0.mk (Kd.N_below (mN HO293.out) hb)
   have n2_ := Aside0.mk (Kd.V_below (mV HO301.out) hb)
   have n3_ := Aside0.mk (Kd.V_below (mV HO304.out) hb)
   have n4_ := Aside0.mk (Kd.N_below (mN HO307.out) hb)
   have n5_ := Aside0.mk (Kd.V_below (mV HO315.out) hb)
   have n6_ := Aside0.mk (Kd.V_below (mV HO318.out) hb)
   have n7_ := Aside0.mk (Kd.V_below (mV HO326.out) hb)
   have n8_ := Aside0.mk (Kd.V_below (mV HO329.out) hb)
   have n9_ := Aside0.mk (Kd.R_below (mR HO338.out) hb)
   have n10_ := Aside0.mk (Kd.N_below (mN HO341.out) hb)
   have n11_ := Aside0.mk (Kd.V_below (mV HO349.out) hb)
   have n12_ := Aside0.mk (Kd.V_below (mV HO352.out) hb)
   have n13_ := Aside0.mk (Kd.N_below (mN HO366.out) hb)
   have n14_ := Aside0.mk (Kd.R_below (mR HO375.out) hb)
   have n15_ := Aside0.mk (Kd.N_below (mN HO378.out) hb)
   have n16_ := Aside0.mk (blk_below (mK BK330.out) hb)
   have n17_ := Aside0.mk (below_step mZ hb)
   clear HO290
   clear HO293
   clear HO301
   clear HO304
   clear HO307
   clear HO315
   clear HO318
   clear HO326
   clear HO329
   clear HO338
   clear HO341
   clear HO349
   clear HO352
   clear HO366
   clear HO375
   clear HO378
   clear BK330
   clear HB
   have HO290 := n0_
   have HO293 := n1_
   have HO301 := n2_
   have HO304 := n3_
   have HO307 := n4_
   have HO315 := n5_
   have HO318 := n6_
   have HO326 := n7_
   have HO329 := n8_
   have HO338 := n9_
   have HO341 := n10_
   have HO349 := n11_
   have HO352 := n12_
   have HO366 := n13_
   have HO375 := n14_
   have HO378 := n15_
   have BK330 := n16_
   have HB := n17_
   clear n0_ n1_ n2_ n3_ n4_ n5_ n6_ n7_ n8_ n9_ n10_ n11_ n12_ n13_ n14_ n15_ n16_ n17_
   (try clear hb)
   (try clear hb2)
   (try clear hk)
   (try clear hi)
   refine hK.out _ _ ⟨(blk_cell BK330.out 0).trans rfl, (blk_cell BK330.out 1).trans rfl, (blk_cell BK330.out 2).trans rfl, (blk_cell BK330.out 3).trans rfl, (blk_cell BK330.out 4).trans rfl, (blk_cell BK330.out 5).trans rfl, (blk_cell BK330.out 6).trans rfl⟩ (fun hHeld => ?_)
   clear hK K
   refine norm_ (a' := ?_) ?_ ?_
   rotate_left
   ·show Act.put _ (some 24) _ = _
    simp only [Act.put, List.setIfInBounds_toArray, List.set_cons_zero, List.set_cons_succ, i64_w, i32_w]
    rfl
   refine pure_ (i := 16) (N := some 25) (v := ?_) (a' := ?_) #[true, true, true, true, true, true, true, true, true, true, true, true, true, true, true, true, true, false, false] rfl rfl (any_of HT_.out (by kernel_rfl)) (fun _ _ _ h => h) (Or.inl ⟨by rfl, ?_⟩) ?_ ?_
   rotate_left
   ·intro w'
    go_simp
    with_reducible rfl
   rotate_left
   ·simp only [Act.put, List.setIfInBounds_toArray, List.set_cons_zero, List.set_cons_succ, i64_w, i32_w]
    rfl
   refine pure_ (i := 17) (N := some 26) (v := ?_) (a' := ?_) #[true, true, true, true, true, true, true, true, true, true, true, true, true, true, true, true, true, true, false] rfl rfl (any_of HT_.out (by kernel_rfl)) (fun _ _ _ h => h) (Or.inl ⟨by rfl, ?_⟩) ?_ ?_
   rotate_left
   ·intro w'
    go_simp
    with_reducible rfl
   rotate_left
   ·simp only [Act.put, List.setIfInBounds_toArray, List.set_cons_zero, List.set_cons_succ, i64_w, i32_w]
    rfl
   refine pure_ (i := 18) (N := some 0) (v := ?_) (a' := ?_) #[true, true, true, true, true, true, true, true, true, true, true, true, true, true, true, true, true, true, true] rfl rfl (any_of HT_.out (by kernel_rfl)) (fun _ _ _ h => h) (Or.inl ⟨by rfl, ?_⟩) ?_ ?_
   rotate_left
   ·intro w'
    go_simp
    with_reducible rfl
   rotate_left
   ·simp only [Act.put, List.setIfInBounds_toArray, List.set_cons_zero, List.set_cons_succ, i64_w, i32_w]
    rfl
   refine done_ (done_of HT_.out (by kernel_rfl)) ?_
   try go_wp2
   go_ret
   exact ⟨by first | rfl | (simp [errW_none, errW_some] <;> rfl) | (simp [*, errW_none, errW_some] <;> rfl), mZ⟩
  ·replace c13 := Bool.eq_false_iff.mpr c13
   subst c13
   have H1 : (some false) = some r := by rw [if_neg (show ¬ (false = true) by decide)] at H; exact H
   clear H
   have H := H1
   clear H1
   exact absurd ((Option.some.inj H).trans hrt_.out) (by decide)
 ·replace c10 := Bool.eq_false_iff.mpr c10
  subst c10
  have H1 : (some false) = some r := by rw [if_neg (show ¬ (false = true) by decide)] at H; exact H
  clear H
  have H := H1
  clear H1
  exact absurd ((Option.some.inj H).trans hrt_.out) (by decide)

end Go.Proofs.Ytalpcnomfebdiaa.QPredLimits
