-- Written by a program of this session (wip/myprint.py): the machine's side of a law
import Derived.Test.YtalpcnomfebdiaaQPredRulesx0
import Derived.Test.YtalpcnomfebdiaaQPredRulesx7
import Derived.Test.YtalpcnomfebdiaaQPredRulesx9
import Derived.Test.YtalpcnomfebdiaaQPredRulesx10
namespace Go.Proofs.Ytalpcnomfebdiaa.QPredRules
open Go.RowKit Go.Proofs.YtalpcnomfebdiaaW.PrintWords Go.Proofs.YtalpcnomfebdiaaW.PrintLast Go.Proofs.YtalpcnomfebdiaaW.PrintMore
attribute [local go_sem] max2_int min2_int max_two min_two max_three min_three max_four min_four   -- for this text's walks alone
set_option linter.unusedVariables false
set_option linter.unusedSimpArgs false

/-! ### columbariumlaw13_known: function 11 -/
def columbariumlaw13_known.f (k : Nat)  : Option (Bool) := (columbariumlaw13_null.f (⟨#[120]⟩ : ByteArray)).bind fun bt296 => ((columbariumlaw13_null.f (⟨#[121]⟩ : ByteArray)).bind fun bt307 => ((columbariumlaw13_nots.f k bt307.1 bt307.2.1 bt307.2.2.1 bt307.2.2.2.1 bt307.2.2.2.2.1 bt307.2.2.2.2.2.1 bt307.2.2.2.2.2.2 1).bind fun bt318 => ((columbariumlaw13_nots.f k 1 (⟨#[]⟩ : ByteArray) 0 0 (⟨#[]⟩ : ByteArray) ([] : List ByteArray) (([(⟨bt296.1, bt296.2.1, bt296.2.2.1, bt296.2.2.2.1, bt296.2.2.2.2.1, bt296.2.2.2.2.2.1, bt296.2.2.2.2.2.2⟩ : S25), (⟨bt318.1, bt318.2.1, bt318.2.2.1, bt318.2.2.2.1, bt318.2.2.2.2.1, bt318.2.2.2.2.2.1, bt318.2.2.2.2.2.2⟩ : S25)] : List (S25))) 1).bind fun bt332 => ((pred_Normal.f k bt332.1 bt332.2.1 bt332.2.2.1 bt332.2.2.2.1 bt332.2.2.2.2.1 bt332.2.2.2.2.2.1 bt332.2.2.2.2.2.2).bind fun bt343 => ((columbariumlaw13_null.f (⟨#[120]⟩ : ByteArray)).bind fun bt355 => ((columbariumlaw13_nots.f k bt355.1 bt355.2.1 bt355.2.2.1 bt355.2.2.2.1 bt355.2.2.2.2.1 bt355.2.2.2.2.2.1 bt355.2.2.2.2.2.2 1).bind fun bt366 => ((columbariumlaw13_null.f (⟨#[121]⟩ : ByteArray)).bind fun bt377 => ((columbariumkeep_Pred.f k bt343.1 bt343.2.1 bt343.2.2.1 bt343.2.2.2.1 bt343.2.2.2.2.1 bt343.2.2.2.2.2.1 bt343.2.2.2.2.2.2 2 (⟨#[]⟩ : ByteArray) 0 0 (⟨#[]⟩ : ByteArray) ([] : List ByteArray) (([(⟨bt366.1, bt366.2.1, bt366.2.2.1, bt366.2.2.2.1, bt366.2.2.2.2.1, bt366.2.2.2.2.2.1, bt366.2.2.2.2.2.2⟩ : S25), (⟨bt377.1, bt377.2.1, bt377.2.2.1, bt377.2.2.2.1, bt377.2.2.2.2.1, bt377.2.2.2.2.2.1, bt377.2.2.2.2.2.2⟩ : S25)] : List (S25)))).bind fun t391 => (if t391 = true then ((columbariumkeep_Everything.f).bind fun bt392 => ((pred_Eval.f k bt392.1 bt392.2.1 bt392.2.2.1 bt392.2.2.2.1 bt392.2.2.2.2.1 bt392.2.2.2.2.2.1 bt392.2.2.2.2.2.2 0 0 ([] : List (S52))).bind fun t403 => (if t403 = true then ((pred_Eval.f k 2 (⟨#[]⟩ : ByteArray) 0 0 (⟨#[]⟩ : ByteArray) ([] : List ByteArray) ([] : List (S25)) 0 0 ([] : List (S52))).bind fun t404 => (some (!t404))) else (some false)))) else (some false))))))))))
theorem columbariumlaw13_known.mono : ∀ k, LeO (columbariumlaw13_known.f k ) (columbariumlaw13_known.f (k + 1) ) := by
 intro  k
 unfold columbariumlaw13_known.f
 repeat' first
   | (with_reducible exact columbariumkeep_Pred.mono _ _ _ _ _ _ _ _ _ _ _ _ _ _ _)
   | (with_reducible exact columbariumlaw13_nots.mono _ _ _ _ _ _ _ _ _)
   | (with_reducible exact pred_Eval.mono _ _ _ _ _ _ _ _ _ _ _)
   | (with_reducible exact pred_Normal.mono _ _ _ _ _ _ _ _)
   | (with_reducible exact LeO.refl _)
   | (with_reducible exact LeO.none _)
   | (with_reducible refine LeO.ite ?_ ?_)
   | (with_reducible refine LeO.bind ?_ (fun _ => ?_))
   | exact columbariumkeep_Pred.mono _ _ _ _ _ _ _ _ _ _ _ _ _ _ _
   | exact columbariumlaw13_nots.mono _ _ _ _ _ _ _ _ _
   | exact pred_Eval.mono _ _ _ _ _ _ _ _ _ _ _
   | exact pred_Normal.mono _ _ _ _ _ _ _ _
   | exact LeO.none _
   | refine LeO.ite ?_ ?_
   | refine LeO.bind ?_ (fun _ => ?_)
theorem columbariumlaw13_known_true (k : Nat) (r : Bool) (h : columbariumlaw13_known.f k = some r) : r = true := by
 have h1 : columbariumlaw13_known.f 60 = some true := by decide +kernel
 rcases Nat.le_total 60 k with hk | hk
 ·have h2 := at_rounds (fun k => columbariumlaw13_known.mono k) hk h1
  rw [h2] at h
  exact (Option.some.inj h).symm
 have h2 := at_rounds (fun k => columbariumlaw13_known.mono k) hk h
 rw [h1] at h2
 exact (Option.some.inj h2).symm

def columbariumlaw13_known.T2 : Bool × List (List Nat × List Nat) := (true, [([], []), ([], []), ([1, 1], [1]), ([2], []), ([2, 3], [2, 3]), ([4], [4]), ([0, 5, 3], [0, 5]), ([6, 6], [6]), ([7, 7], [7]), ([7], [7]), ([8, 9, 8, 7], [7, 8, 9]), ([7, 10], [7, 10]), ([11, 10], [11]), ([12], [12]), ([12], [12]), ([13, 14, 12, 12], [12, 13, 14]), ([15, 12], [12, 15]), ([12, 16], [12, 16]), ([17, 15, 0, 1, 2, 3, 4, 5, 6, 7, 8, 9, 10, 11, 12, 13, 14, 15, 16, 17], [17])])
def columbariumlaw13_known.B2 : List Nat := [0, 0, 2, 6, 14, 30, 63, 127, 255, 255, 1023, 2047, 4095, 8191, 8191, 32767, 65535, 131071, 262143]
theorem columbariumlaw13_known.tab2 : rtab .any (opsOf Try.f11 2) = columbariumlaw13_known.T2 := by kernel_rfl
theorem columbariumlaw13_known.bits2 : waitsOk columbariumlaw13_known.T2.2 columbariumlaw13_known.B2 = true := by kernel_rfl
set_option maxHeartbeats 8000000 in
set_option maxRecDepth 100000 in
theorem columbariumlaw13_known.calls (k : Nat)  (r : Bool) (w : World) (h : columbariumlaw13_known.f k  = some r) :
  Calls Try.prog 11 #[] w fun e w' => e = .returned (.bool r) ∧ Below w.heap.size w w' := by
 have hu25 := Try.underlying25
 have hu36 := Try.underlying36
 have HB := zM (Below.refl w.heap.size w)
 have hrt_ : Aside0 (r = true) := ⟨columbariumlaw13_known_true k r h⟩
 have H : ((columbariumlaw13_null.f (⟨#[120]⟩ : ByteArray)).bind fun bt296 => ((columbariumlaw13_null.f (⟨#[121]⟩ : ByteArray)).bind fun bt307 => ((columbariumlaw13_nots.f k bt307.1 bt307.2.1 bt307.2.2.1 bt307.2.2.2.1 bt307.2.2.2.2.1 bt307.2.2.2.2.2.1 bt307.2.2.2.2.2.2 1).bind fun bt318 => ((columbariumlaw13_nots.f k 1 (⟨#[]⟩ : ByteArray) 0 0 (⟨#[]⟩ : ByteArray) ([] : List ByteArray) (([(⟨bt296.1, bt296.2.1, bt296.2.2.1, bt296.2.2.2.1, bt296.2.2.2.2.1, bt296.2.2.2.2.2.1, bt296.2.2.2.2.2.2⟩ : S25), (⟨bt318.1, bt318.2.1, bt318.2.2.1, bt318.2.2.2.1, bt318.2.2.2.2.1, bt318.2.2.2.2.2.1, bt318.2.2.2.2.2.2⟩ : S25)] : List (S25))) 1).bind fun bt332 => ((pred_Normal.f k bt332.1 bt332.2.1 bt332.2.2.1 bt332.2.2.2.1 bt332.2.2.2.2.1 bt332.2.2.2.2.2.1 bt332.2.2.2.2.2.2).bind fun bt343 => ((columbariumlaw13_null.f (⟨#[120]⟩ : ByteArray)).bind fun bt355 => ((columbariumlaw13_nots.f k bt355.1 bt355.2.1 bt355.2.2.1 bt355.2.2.2.1 bt355.2.2.2.2.1 bt355.2.2.2.2.2.1 bt355.2.2.2.2.2.2 1).bind fun bt366 => ((columbariumlaw13_null.f (⟨#[121]⟩ : ByteArray)).bind fun bt377 => ((columbariumkeep_Pred.f k bt343.1 bt343.2.1 bt343.2.2.1 bt343.2.2.2.1 bt343.2.2.2.2.1 bt343.2.2.2.2.2.1 bt343.2.2.2.2.2.2 2 (⟨#[]⟩ : ByteArray) 0 0 (⟨#[]⟩ : ByteArray) ([] : List ByteArray) (([(⟨bt366.1, bt366.2.1, bt366.2.2.1, bt366.2.2.2.1, bt366.2.2.2.2.1, bt366.2.2.2.2.2.1, bt366.2.2.2.2.2.2⟩ : S25), (⟨bt377.1, bt377.2.1, bt377.2.2.1, bt377.2.2.2.1, bt377.2.2.2.2.1, bt377.2.2.2.2.2.1, bt377.2.2.2.2.2.2⟩ : S25)] : List (S25)))).bind fun t391 => (if t391 = true then ((columbariumkeep_Everything.f).bind fun bt392 => ((pred_Eval.f k bt392.1 bt392.2.1 bt392.2.2.1 bt392.2.2.2.1 bt392.2.2.2.2.1 bt392.2.2.2.2.2.1 bt392.2.2.2.2.2.2 0 0 ([] : List (S52))).bind fun t403 => (if t403 = true then ((pred_Eval.f k 2 (⟨#[]⟩ : ByteArray) 0 0 (⟨#[]⟩ : ByteArray) ([] : List ByteArray) ([] : List (S25)) 0 0 ([] : List (S52))).bind fun t404 => (some (!t404))) else (some false)))) else (some false))))))))))) = some r := h
 clear h
 replace H := Option.bind_eq_some_iff.mp H
 obtain ⟨⟨t296, t297, t298, t299, t300, t301, t304⟩, A10, H⟩ := H
 try dsimp only at H
 have A1 := zM A10
 clear A10
 replace H := Option.bind_eq_some_iff.mp H
 obtain ⟨⟨t307, t308, t309, t310, t311, t312, t315⟩, A20, H⟩ := H
 try dsimp only at H
 have A2 := zM A20
 clear A20
 replace H := Option.bind_eq_some_iff.mp H
 obtain ⟨⟨t318, t319, t320, t321, t322, t323, t326⟩, A30, H⟩ := H
 try dsimp only at H
 have A3 := zM A30
 clear A30
 obtain ⟨y329, hy329⟩ : ∃ y_ : List (S25), y_ = (([(⟨t296, t297, t298, t299, t300, t301, t304⟩ : S25), (⟨t318, t319, t320, t321, t322, t323, t326⟩ : S25)] : List (S25))) := ⟨_, rfl⟩
 replace H : ((columbariumlaw13_nots.f k 1 (⟨#[]⟩ : ByteArray) 0 0 (⟨#[]⟩ : ByteArray) ([] : List ByteArray) y329 1).bind fun bt332 => ((pred_Normal.f k bt332.1 bt332.2.1 bt332.2.2.1 bt332.2.2.2.1 bt332.2.2.2.2.1 bt332.2.2.2.2.2.1 bt332.2.2.2.2.2.2).bind fun bt343 => ((columbariumlaw13_null.f (⟨#[120]⟩ : ByteArray)).bind fun bt355 => ((columbariumlaw13_nots.f k bt355.1 bt355.2.1 bt355.2.2.1 bt355.2.2.2.1 bt355.2.2.2.2.1 bt355.2.2.2.2.2.1 bt355.2.2.2.2.2.2 1).bind fun bt366 => ((columbariumlaw13_null.f (⟨#[121]⟩ : ByteArray)).bind fun bt377 => ((columbariumkeep_Pred.f k bt343.1 bt343.2.1 bt343.2.2.1 bt343.2.2.2.1 bt343.2.2.2.2.1 bt343.2.2.2.2.2.1 bt343.2.2.2.2.2.2 2 (⟨#[]⟩ : ByteArray) 0 0 (⟨#[]⟩ : ByteArray) ([] : List ByteArray) (([(⟨bt366.1, bt366.2.1, bt366.2.2.1, bt366.2.2.2.1, bt366.2.2.2.2.1, bt366.2.2.2.2.2.1, bt366.2.2.2.2.2.2⟩ : S25), (⟨bt377.1, bt377.2.1, bt377.2.2.1, bt377.2.2.2.1, bt377.2.2.2.2.1, bt377.2.2.2.2.2.1, bt377.2.2.2.2.2.2⟩ : S25)] : List (S25)))).bind fun t391 => (if t391 = true then ((columbariumkeep_Everything.f).bind fun bt392 => ((pred_Eval.f k bt392.1 bt392.2.1 bt392.2.2.1 bt392.2.2.2.1 bt392.2.2.2.2.1 bt392.2.2.2.2.2.1 bt392.2.2.2.2.2.2 0 0 ([] : List (S52))).bind fun t403 => (if t403 = true then ((pred_Eval.f k 2 (⟨#[]⟩ : ByteArray) 0 0 (⟨#[]⟩ : ByteArray) ([] : List ByteArray) ([] : List (S25)) 0 0 ([] : List (S52))).bind fun t404 => (some (!t404))) else (some false)))) else (some false)))))))) = some r := by first | (rw [hy329]; with_reducible exact H) | (have H2_ := (Option.bind_some _ _).symm.trans H; rw [hy329]; with_reducible exact H2_) | (have H2_ := (Option.bind_some _ _).symm.trans H; with_reducible exact H2_) | with_reducible exact H | (rw [hy329]; exact H) | exact H
 have Ny329 := zM hy329
 clear hy329
 replace H := Option.bind_eq_some_iff.mp H
 obtain ⟨⟨t332, t333, t334, t335, t336, t337, t340⟩, A40, H⟩ := H
 try dsimp only at H
 have A4 := zM A40
 clear A40
 replace H := Option.bind_eq_some_iff.mp H
 obtain ⟨⟨t343, t344, t345, t346, t347, t348, t351⟩, A50, H⟩ := H
 try dsimp only at H
 have A5 := zM A50
 clear A50
 replace H := Option.bind_eq_some_iff.mp H
 obtain ⟨⟨t355, t356, t357, t358, t359, t360, t363⟩, A60, H⟩ := H
 try dsimp only at H
 have A6 := zM A60
 clear A60
 replace H := Option.bind_eq_some_iff.mp H
 obtain ⟨⟨t366, t367, t368, t369, t370, t371, t374⟩, A70, H⟩ := H
 try dsimp only at H
 have A7 := zM A70
 clear A70
 replace H := Option.bind_eq_some_iff.mp H
 obtain ⟨⟨t377, t378, t379, t380, t381, t382, t385⟩, A80, H⟩ := H
 try dsimp only at H
 have A8 := zM A80
 clear A80
 obtain ⟨y388, hy388⟩ : ∃ y_ : List (S25), y_ = (([(⟨t366, t367, t368, t369, t370, t371, t374⟩ : S25), (⟨t377, t378, t379, t380, t381, t382, t385⟩ : S25)] : List (S25))) := ⟨_, rfl⟩
 replace H : ((columbariumkeep_Pred.f k t343 t344 t345 t346 t347 t348 t351 2 (⟨#[]⟩ : ByteArray) 0 0 (⟨#[]⟩ : ByteArray) ([] : List ByteArray) y388).bind fun t391 => (if t391 = true then ((columbariumkeep_Everything.f).bind fun bt392 => ((pred_Eval.f k bt392.1 bt392.2.1 bt392.2.2.1 bt392.2.2.2.1 bt392.2.2.2.2.1 bt392.2.2.2.2.2.1 bt392.2.2.2.2.2.2 0 0 ([] : List (S52))).bind fun t403 => (if t403 = true then ((pred_Eval.f k 2 (⟨#[]⟩ : ByteArray) 0 0 (⟨#[]⟩ : ByteArray) ([] : List ByteArray) ([] : List (S25)) 0 0 ([] : List (S52))).bind fun t404 => (some (!t404))) else (some false)))) else (some false))) = some r := by first | (rw [hy388]; with_reducible exact H) | (have H2_ := (Option.bind_some _ _).symm.trans H; rw [hy388]; with_reducible exact H2_) | (have H2_ := (Option.bind_some _ _).symm.trans H; with_reducible exact H2_) | with_reducible exact H | (rw [hy388]; exact H) | exact H
 have Ny388 := zM hy388
 clear hy388
 replace H := Option.bind_eq_some_iff.mp H
 obtain ⟨t391, A90, H⟩ := H
 try dsimp only at H
 have A9 := zM A90
 clear A90
 by_cases c10 : t391 = true
 ·subst c10
  rw [if_pos rfl] at H
  replace H := Option.bind_eq_some_iff.mp H
  obtain ⟨⟨t392, t393, t394, t395, t396, t397, t400⟩, A110, H⟩ := H
  try dsimp only at H
  have A11 := zM A110
  clear A110
  replace H := Option.bind_eq_some_iff.mp H
  obtain ⟨t403, A120, H⟩ := H
  try dsimp only at H
  have A12 := zM A120
  clear A120
  by_cases c13 : t403 = true
  ·subst c13
   rw [if_pos rfl] at H
   replace H := Option.bind_eq_some_iff.mp H
   obtain ⟨t404, A140, H⟩ := H
   try dsimp only at H
   have A14 := zM A140
   clear A140
   obtain rfl := Option.some.inj H
   go_enter Try.func11, Try.ntmps11
   try go_wp2_with (first | ((with_reducible refine gate_callee (f := 18) rfl ?_); refine goesL_ (some 2) rfl rfl Try.func18 (by kernel_rfl) rfl #[.string (⟨#[120]⟩ : ByteArray)] rfl yb ?_; (with_reducible refine (columbariumlaw13_null.calls (⟨#[120]⟩ : ByteArray) t296 t297 t298 t299 t300 t301 t304 _ A1.out).mono ?_); rintro e w15 ⟨v302, v305, rfl, ho0, ho1, hb⟩; refine ⟨_, rfl, ?_⟩; (try replace ho1 := Kd.S_N ho1); have HO303 := zM (Kd.R_lower ho0 (below_size (mB HB.out))); have HO306 := zM (Kd.N_lower (Kd.N_mono (ok' := fun k_ => some k_ ≠ (v302 : Value).ownBlock) (Kd.R_N (Kd.R_bound ho1)) (fun k_ hk_ => hk_.1)) (below_size (mB HB.out))); replace HB := zM (below_step (mB HB.out) hb); (try clear hb); (try clear ho0); (try clear ho1)) | ((with_reducible refine gate_callee (f := 18) rfl ?_); refine goesL_ (some 3) rfl rfl Try.func18 (by kernel_rfl) rfl #[.string (⟨#[121]⟩ : ByteArray)] rfl yb ?_; (with_reducible refine (columbariumlaw13_null.calls (⟨#[121]⟩ : ByteArray) t307 t308 t309 t310 t311 t312 t315 _ A2.out).mono ?_); rintro e w16 ⟨v313, v316, rfl, ho0, ho1, hb⟩; refine ⟨_, rfl, ?_⟩; (try replace ho1 := Kd.S_N ho1); have HO314 := zM (Kd.R_lower (Kd.R_new' ho0 (Kd.R_lt (mR HO303.out))) (below_size (mB HB.out))); have HO317 := zM (Kd.N_lower (Kd.N_mono (ok' := fun k_ => some k_ ≠ (v313 : Value).ownBlock ∧ some k_ ≠ (v302 : Value).ownBlock ∧ some k_ ≠ (v305 : Value).ownBlock) (Kd.R_N (Kd.R_bound ho1)) (fun k_ hk_ => ⟨hk_.1, (fR HO303 hk_.2.1), (fN HO306 hk_.2.1)⟩)) (below_size (mB HB.out))); replace HO303 := zM (Kd.R_elder' (mR HO303.out) (Kd.R_base ho0) hb); replace HO306 := zM (Kd.N_mono (Kd.N_told (Kd.N_told (Kd.N_old (mN HO306.out) hb) (Kd.R_base ho0)) (by first | exact Kd.N_base ho1 | exact Kd.N_base (Kd.R_N ho1))) (fun _ h_ => h_.1)); replace HB := zM (below_step (mB HB.out) hb); (try clear hb); (try clear ho0); (try clear ho1); obtain ⟨Ao17, co17, eo17⟩ := Kd.R_slice HO314.out; subst eo17; obtain ⟨Ao18, co18, eo18⟩ := Kd.N_slice HO317.out; subst eo18) | ((with_reducible refine gate_callee (f := 16) rfl ?_); refine goesL_ (some 4) rfl rfl Try.func16 (by kernel_rfl) rfl #[.agg #[.int .i64 t307, .string t308, .int .i64 t309, .int .i64 t310, .string t311, .slice Ao17 t312.length co17, .slice Ao18 t315.length co18], .int .i64 1] rfl yb ?_; (with_reducible refine (columbariumlaw13_nots.calls k t307 t308 t309 t310 t311 (fun k_ => some k_ = (.slice Ao17 t312.length co17 : Value).ownBlock) _ _ t312 (fun k_ => (nb k_ Ao17 t312.length co17 ∧ (some k_ ≠ (v302 : Value).ownBlock ∧ some k_ ≠ (v305 : Value).ownBlock))) _ _ t315 1 t318 t319 t320 t321 t322 t323 t326 _ ?side1 ?side2 A3.out).mono ?_); (case side1 => exact Kd.R_V (Kd.R_tight rfl (Kd.R_apart' (Kd.R_apart' (HO314.out) (Kd.N_typed HO306.out) (by decide)) (Kd.N_typed HO317.out) (by decide)))); (case side2 => exact Kd.N_V (HO317.out)); rintro e w19 ⟨v324, v327, rfl, ho0, ho1, hb⟩; refine ⟨_, rfl, ?_⟩; have HO325 := zM (Kd.V_lower (Kd.V_mono (ok' := fun k_ => some k_ ≠ (v302 : Value).ownBlock ∧ some k_ ≠ (v305 : Value).ownBlock) ho0 (fun k_ hk_ => Or.elim hk_ (fun hs_ => Or.elim hs_ (fun hs_ => ⟨((Kd.R_apart' (Kd.R_apart' (HO314.out) (Kd.N_typed HO306.out) (by decide)) (Kd.N_typed HO317.out) (by decide)).1 k_ hs_.symm).1.1.2, ((Kd.R_apart' (Kd.R_apart' (HO314.out) (Kd.N_typed HO306.out) (by decide)) (Kd.N_typed HO317.out) (by decide)).1 k_ hs_.symm).1.2⟩) (fun hs_ => ⟨hs_.2.1, hs_.2.2⟩)) (fun hn_ => ⟨(fR HO303 hn_), (fN HO306 hn_)⟩))) (below_size (mB HB.out))); have HO328 := zM (Kd.V_lower (Kd.V_mono (ok' := fun k_ => some k_ ≠ (v302 : Value).ownBlock ∧ some k_ ≠ (v305 : Value).ownBlock) ho1 (fun k_ hk_ => Or.elim hk_ (fun hs_ => Or.elim hs_ (fun hs_ => ⟨((Kd.R_apart' (Kd.R_apart' (HO314.out) (Kd.N_typed HO306.out) (by decide)) (Kd.N_typed HO317.out) (by decide)).1 k_ hs_.symm).1.1.2, ((Kd.R_apart' (Kd.R_apart' (HO314.out) (Kd.N_typed HO306.out) (by decide)) (Kd.N_typed HO317.out) (by decide)).1 k_ hs_.symm).1.2⟩) (fun hs_ => ⟨hs_.2.1, hs_.2.2⟩)) (fun hn_ => ⟨(fR HO303 hn_), (fN HO306 hn_)⟩))) (below_size (mB HB.out))); replace HO303 := zR HO303 hb; replace HO306 := zN HO306 hb; replace HO314 := zR HO314 hb; replace HO317 := zN HO317 hb; replace HB := zM (below_step (mB HB.out) hb); (try clear hb); (try clear ho0); (try clear ho1); obtain ⟨Ao20, co20, eo20⟩ := Kd.R_slice HO303.out; subst eo20; obtain ⟨Ao21, co21, eo21⟩ := Kd.N_slice HO306.out; subst eo21; obtain ⟨Ao22, co22, eo22⟩ := Kd.V_slice HO325.out; subst eo22; obtain ⟨Ao23, co23, eo23⟩ := Kd.V_slice HO328.out; subst eo23) | ((with_reducible refine gate_dst (N := 5) rfl ?_); refine Kd.N_lit k25 _ 25 ?hg (N' := 5) ?hd (xs := ([(⟨t296, t297, t298, t299, t300, t301, t304⟩ : S25), (⟨t318, t319, t320, t321, t322, t323, t326⟩ : S25)] : List (S25))) (inner := [.int .i64 t296, .string t297, .int .i64 t298, .int .i64 t299, .string t300, .slice Ao20 t301.length co20, .slice Ao21 t304.length co21, .int .i64 t318, .string t319, .int .i64 t320, .int .i64 t321, .string t322, .slice Ao22 t323.length co22, .slice Ao23 t326.length co23]) (ok := (fun _ => True)) (okp := (fun _ => True)) ?hr ?hp (fun _ hk => hk) ((show ∀ k_, w19.heap.size ≤ k_ → (fun _ => True) k_ from fun k_ hk => trivial) _ (Nat.le_refl _)) (Below.refl _ _) (Nat.le_refl _) (by simp) ?_; (case hd => rfl); (case hg => rfl); (case hr => first | (go_simp; done) | (go_simp; rfl)); (case hp => exact (Reps.c7 (show Kd.FK k25 _ _ (⟨t296, t297, t298, t299, t300, t301, t304⟩ : S25) [.int .i64 t296, .string t297, .int .i64 t298, .int .i64 t299, .string t300, .slice Ao20 t301.length co20, .slice Ao21 t304.length co21] from (k25_mkF _ _ (⟨t296, t297, t298, t299, t300, t301, t304⟩ : S25) (Kd.R_reads' (Kd.R_mono (ok' := (fun _ => True)) (HO303.out) (fun k_ hk => trivial))).2.1 (Kd.R_F (by (with_reducible repeat (first | apply Kd.R_alloc | apply Kd.R_drewN | apply Kd.R_drew)); exact (Kd.R_mono (ok' := (fun _ => True)) (HO303.out) (fun k_ hk => trivial)))) (Kd.N_reads' (Kd.N_mono (ok' := (fun _ => True)) (HO306.out) (fun k_ hk => trivial))).2.1 (Kd.N_F (by (with_reducible repeat (first | apply Kd.N_alloc | apply Kd.N_drewN | apply Kd.N_drew)); exact (Kd.N_mono (ok' := (fun _ => True)) (HO306.out) (fun k_ hk => trivial)))))) (Reps.c7 (show Kd.FK k25 _ _ (⟨t318, t319, t320, t321, t322, t323, t326⟩ : S25) [.int .i64 t318, .string t319, .int .i64 t320, .int .i64 t321, .string t322, .slice Ao22 t323.length co22, .slice Ao23 t326.length co23] from (k25_mkF _ _ (⟨t318, t319, t320, t321, t322, t323, t326⟩ : S25) (Kd.V_reads' (Kd.V_mono (ok' := (fun _ => True)) (HO325.out) (fun k_ hk => trivial))).2.1 (Kd.V_F (by (with_reducible repeat (first | apply Kd.V_alloc | apply Kd.V_drewN | apply Kd.V_drew)); exact (Kd.V_mono (ok' := (fun _ => True)) (HO325.out) (fun k_ hk => trivial)))) (Kd.V_reads' (Kd.V_mono (ok' := (fun _ => True)) (HO328.out) (fun k_ hk => trivial))).2.1 (Kd.V_F (by (with_reducible repeat (first | apply Kd.V_alloc | apply Kd.V_drewN | apply Kd.V_drew)); exact (Kd.V_mono (ok' := (fun _ => True)) (HO328.out) (fun k_ hk => trivial)))))) (Reps.none _ _)))); intro v330 w24 ho25 hb hg_ hnew_; clear hg_ hnew_; (first | rw [← Ny329.out] at ho25 | (simp only [Int.reduceToNat] at ho25; rw [← Ny329.out] at ho25)); replace HO314 := zR HO314 hb; replace HO317 := zM (Kd.N_elder' (mN HO317.out) (by first | exact Kd.N_base ho25 | exact Kd.N_base (Kd.R_N ho25)) hb); replace HO325 := zM (Kd.V_elder' (mV HO325.out) (by first | exact Kd.N_base ho25 | exact Kd.N_base (Kd.R_N ho25)) hb); replace HO328 := zM (Kd.V_elder' (mV HO328.out) (by first | exact Kd.N_base ho25 | exact Kd.N_base (Kd.R_N ho25)) hb); have HO331 := zM (Kd.N_lower ho25 (below_size (mB HB.out))); replace HB := zM (below_step (mB HB.out) hb); clear HO303 HO306; clear hb ho25; obtain ⟨Ao26, co26, eo26⟩ := Kd.N_slice HO331.out; subst eo26) | ((with_reducible refine gate_callee (f := 16) rfl ?_); refine goesL_ (some 7) rfl rfl Try.func16 (by kernel_rfl) rfl #[.agg #[.int .i64 1, .string (⟨#[]⟩ : ByteArray), .int .i64 0, .int .i64 0, .string (⟨#[]⟩ : ByteArray), .slice none 0 0, .slice Ao26 y329.length co26], .int .i64 1] rfl yb ?_; (refine (columbariumlaw13_nots.calls k 1 (⟨#[]⟩ : ByteArray) 0 0 (⟨#[]⟩ : ByteArray) (fun k_ => False) _ _ ([] : List ByteArray) (fun k_ => True) _ _ y329 1 t332 t333 t334 t335 t336 t337 t340 _ ?side1 ?side2 A4.out).mono ?_); (case side1 => exact Kd.V_nil _ _ _ _ _); (case side2 => exact Kd.N_V (HO331.out)); rintro e w27 ⟨v338, v341, rfl, ho0, ho1, hb⟩; refine ⟨_, rfl, ?_⟩; replace HO314 := zR HO314 hb; replace HO317 := zN HO317 hb; replace HO325 := zV HO325 hb; replace HO328 := zV HO328 hb; replace HO331 := zN HO331 hb; have HO339 := zM (Kd.V_lower (Kd.V_mono (ok' := fun k_ => True) ho0 (fun k_ hk_ => trivial)) (below_size (mB HB.out))); have HO342 := zM (Kd.V_lower (Kd.V_mono (ok' := fun k_ => True) ho1 (fun k_ hk_ => trivial)) (below_size (mB HB.out))); replace HB := zM (below_step (mB HB.out) hb); (try clear hb); (try clear ho0); (try clear ho1); obtain ⟨Ao28, co28, eo28⟩ := Kd.V_slice HO339.out; subst eo28; obtain ⟨Ao29, co29, eo29⟩ := Kd.V_slice HO342.out; subst eo29) | ((with_reducible refine gate_callee (f := 10) rfl ?_); refine goesL_ (some 8) rfl rfl Try.func10 (by kernel_rfl) rfl #[.agg #[.int .i64 t332, .string t333, .int .i64 t334, .int .i64 t335, .string t336, .slice Ao28 t337.length co28, .slice Ao29 t340.length co29]] rfl yb ?_; (with_reducible refine (pred_Normal.calls k t332 t333 t334 t335 t336 _ _ t337 _ _ t340 t343 t344 t345 t346 t347 t348 t351 _ ?side1 ?side2 ?side3 ?side4 A5.out).mono ?_); (case side1 => exact zC ((Kd.V_reads' HO339.out).2.2)); (case side2 => exact (Kd.V_reads' HO339.out).2.1); (case side3 => exact zC ((Kd.V_reads' HO342.out).2.2)); (case side4 => exact (Kd.V_reads' HO342.out).2.1); rintro e w30 ⟨v349, v352, rfl, ho0, ho1, hb⟩; refine ⟨_, rfl, ?_⟩; replace HO325 := zV HO325 hb; replace HO328 := zV HO328 hb; replace HO339 := zV HO339 hb; replace HO342 := zV HO342 hb; have HO350 := zM (Kd.V_lower (Kd.V_mono (ok' := fun k_ => nb k_ Ao17 t312.length co17 ∧ nb k_ Ao18 t315.length co18 ∧ nb k_ Ao26 y329.length co26) ho0 (fun k_ hk_ => ⟨(fR HO314 hk_), (fN HO317 hk_), (fN HO331 hk_)⟩)) (below_size (mB HB.out))); have HO353 := zM (Kd.V_lower (Kd.V_mono (ok' := fun k_ => nb k_ Ao17 t312.length co17 ∧ nb k_ Ao18 t315.length co18 ∧ nb k_ Ao26 y329.length co26) ho1 (fun k_ hk_ => ⟨(fR HO314 hk_), (fN HO317 hk_), (fN HO331 hk_)⟩)) (below_size (mB HB.out))); replace HO314 := zR HO314 hb; replace HO317 := zN HO317 hb; replace HO331 := zN HO331 hb; replace HB := zM (below_step (mB HB.out) hb); (try clear hb); (try clear ho0); (try clear ho1)) | ((with_reducible refine gate_dst (N := 1) rfl ?_); refine box_event ?hg (N := 1) ?hd (cs := #[.int .i64 0, .string (⟨#[]⟩ : ByteArray), .int .i64 0, .int .i64 0, .string (⟨#[]⟩ : ByteArray), .slice none 0 0, .slice none 0 0]) (t := 25) ?hr ?_; (case hd => rfl); (case hg => rfl); (case hr => first | (go_simp; done) | (go_simp; rfl)); intro gb354 hg w31 hbox hb; replace HO314 := zR HO314 hb; replace HO317 := zM (Kd.N_below (Kd.N_elderB (mN HO317.out) gb354 (Nat.le_of_eq hg.symm)) hb); replace HO325 := zM (Kd.V_below (Kd.V_elderB (mV HO325.out) gb354 (Nat.le_of_eq hg.symm)) hb); replace HO328 := zM (Kd.V_below (Kd.V_elderB (mV HO328.out) gb354 (Nat.le_of_eq hg.symm)) hb); replace HO331 := zM (Kd.N_below (Kd.N_elderB (mN HO331.out) gb354 (Nat.le_of_eq hg.symm)) hb); replace HO339 := zM (Kd.V_below (Kd.V_elderB (mV HO339.out) gb354 (Nat.le_of_eq hg.symm)) hb); replace HO342 := zM (Kd.V_below (Kd.V_elderB (mV HO342.out) gb354 (Nat.le_of_eq hg.symm)) hb); replace HO350 := zM (Kd.V_below (Kd.V_elderB (mV HO350.out) gb354 (Nat.le_of_eq hg.symm)) hb); replace HO353 := zM (Kd.V_below (Kd.V_elderB (mV HO353.out) gb354 (Nat.le_of_eq hg.symm)) hb); have BK354 := zM (hbox); have GW354 := zM ((by rw [hg]; exact (below_size (mB HB.out)) : w.heap.size ≤ gb354)); replace HB := zM (below_step (mB HB.out) hb); have GE354 := GW354; clear hb hbox hg; obtain ⟨hcz32_0, hcz32_1, hcz32_2, hcz32_3, hcz32_4, hcz32_5, hcz32_6, hfz32_0, hfz32_1, hfz32_2, hfz32_3, hfz32_4, hfz32_5, hfz32_6⟩ := cells_7 BK354.out; obtain ⟨Ao33, co33, eo33⟩ := Kd.V_slice HO350.out; subst eo33; obtain ⟨Ao34, co34, eo34⟩ := Kd.V_slice HO353.out; subst eo34))
   generalize hq_ : (((((((w31.setCell ⟨gb354, 0, none⟩ (.int .i64 t343)).setCell ⟨gb354, 1, none⟩ (.string t344)).setCell ⟨gb354, 2, none⟩ (.int .i64 t345)).setCell ⟨gb354, 3, none⟩ (.int .i64 t346)).setCell ⟨gb354, 4, none⟩ (.string t347)).setCell ⟨gb354, 5, none⟩ (.slice Ao33 t348.length co33)).setCell ⟨gb354, 6, none⟩ (.slice Ao34 t351.length co34)) = w35
   replace HO314 : Aside0 (Kd.R Kd.string 9 w35 w.heap.size (fun _ => True) (.slice Ao17 t312.length co17) t312) := ⟨by subst hq_; (with_reducible repeat (first | apply Kd.R_alloc | apply Kd.R_drewN | apply Kd.R_drew)); exact Kd.R_mono (zgR (Kd.R_types HO314.out BK354.out (by decide))) (fun _ hk => trivial)⟩
   replace HO317 := zqN7 (ok' := fun k_ => nb k_ Ao17 t312.length co17 ∧ nb k_ Ao26 y329.length co26 ∧ k_ ≠ gb354) hq_ HO317 (fun _ hk => hk.2) (fun _ hk => ⟨hk.1.1.1.1, ⟨hk.1.1.2, hk.1.2⟩⟩)
   replace HO325 := zqV7 (ok' := fun k_ => nb k_ Ao26 y329.length co26 ∧ k_ ≠ gb354) hq_ HO325 (fun _ hk => hk.2) (fun _ hk => ⟨hk.1.1.2, hk.1.2⟩)
   replace HO328 := zqV7 (ok' := fun k_ => nb k_ Ao26 y329.length co26 ∧ k_ ≠ gb354) hq_ HO328 (fun _ hk => hk.2) (fun _ hk => ⟨hk.1.1.2, hk.1.2⟩)
   replace HO331 := zqN7 (ok' := fun k_ => k_ ≠ gb354) hq_ HO331 (fun _ hk => hk.2) (fun _ hk => hk.1.2)
   replace HO339 := zqV7 (ok' := fun k_ => k_ ≠ gb354) hq_ HO339 (fun _ hk => hk.2) (fun _ hk => hk.1.2)
   replace HO342 := zqV7 (ok' := fun k_ => k_ ≠ gb354) hq_ HO342 (fun _ hk => hk.2) (fun _ hk => hk.1.2)
   replace HO350 := zqV7 (ok' := fun k_ => nb k_ Ao17 t312.length co17 ∧ nb k_ Ao18 t315.length co18 ∧ nb k_ Ao26 y329.length co26 ∧ k_ ≠ gb354) hq_ HO350 (fun _ hk => hk.2) (fun _ hk => ⟨hk.1.1.1, ⟨hk.1.1.2.1, ⟨hk.1.1.2.2, hk.1.2⟩⟩⟩)
   replace HO353 := zqV7 (ok' := fun k_ => nb k_ Ao17 t312.length co17 ∧ nb k_ Ao18 t315.length co18 ∧ nb k_ Ao26 y329.length co26 ∧ k_ ≠ gb354) hq_ HO353 (fun _ hk => hk.2) (fun _ hk => ⟨hk.1.1.1, ⟨hk.1.1.2.1, ⟨hk.1.1.2.2, hk.1.2⟩⟩⟩)
   replace BK354 := zp7 hq_ BK354
   replace HB : Aside0 (Below w.heap.size w w35) := ⟨by subst hq_; exact mZ⟩
   clear hq_
   replace HO314 := zM (Kd.R_drew HO314.out)
   replace HO317 := zM (Kd.N_drew HO317.out)
   replace HO325 := zM (Kd.V_drew HO325.out)
   replace HO328 := zM (Kd.V_drew HO328.out)
   replace HO331 := zM (Kd.N_drew HO331.out)
   replace HO339 := zM (Kd.V_drew HO339.out)
   replace HO342 := zM (Kd.V_drew HO342.out)
   replace HO350 := zM (Kd.V_drew HO350.out)
   replace HO353 := zM (Kd.V_drew HO353.out)
   replace BK354 := zM (blk_drew BK354.out)
   replace HB := zM (below_drew1 HB.out)
   refine start_ (n := 19) (S := fun w' => w'.cell? ⟨gb354, 0, none⟩ = some (.int .i64 t343) ∧ w'.cell? ⟨gb354, 1, none⟩ = some (.string t344) ∧ w'.cell? ⟨gb354, 2, none⟩ = some (.int .i64 t345) ∧ w'.cell? ⟨gb354, 3, none⟩ = some (.int .i64 t346) ∧ w'.cell? ⟨gb354, 4, none⟩ = some (.string t347) ∧ w'.cell? ⟨gb354, 5, none⟩ = some (.slice Ao33 t348.length co33) ∧ w'.cell? ⟨gb354, 6, none⟩ = some (.slice Ao34 t351.length co34)) (ds := []) #[false, false, false, false, false, false, false, false, false, false, false, false, false, false, false, false, false, false, false] (by kernel_rfl) rfl rfl (zJ7 BK354) (fun hHeld => ?_); refine with_tabW columbariumlaw13_known.tab2 columbariumlaw13_known.bits2 (fun HT_ HW_ => ?_)
   generalize w35.drew = w36 at HO314 HO317 HO325 HO328 HO331 HO339 HO342 HO350 HO353 BK354 HB hHeld ⊢
   refine take_ (i := 0) (N := some 9) (v := ?_) (a' := ?_) #[true, false, false, false, false, false, false, false, false, false, false, false, false, false, false, false, false, false, false] rfl rfl (take_ofW HT_.out HW_.out (by kernel_rfl)) (fun _ _ _ h => h) (Or.inl ⟨by rfl, ?_⟩) hHeld ?_ ?_
   rotate_left
   ·rintro w' ⟨s0, s1, s2, s3, s4, s5, s6⟩
    go_simp
    with_reducible rfl
   rotate_left
   ·simp only [Act.put, List.setIfInBounds_toArray, List.set_cons_zero, List.set_cons_succ, i64_w, i32_w]
    rfl
   refine one_ (i := 1) (N := some 10) #[true, true, false, false, false, false, false, false, false, false, false, false, false, false, false, false, false, false, false] rfl rfl (one_of HT_.out (by kernel_rfl)) (by decide) (fun K hK => ?_)
   refine goes_ Try.func18 (by kernel_rfl) rfl #[.string (⟨#[120]⟩ : ByteArray)] (by rfl) rfl rfl yb ?_
   with_reducible refine (columbariumlaw13_null.calls (⟨#[120]⟩ : ByteArray) t355 t356 t357 t358 t359 t360 t363 _ A6.out).mono ?_
   rintro e w37 ⟨v361, v364, rfl, ho0, ho1, hb⟩
   refine ⟨_, rfl, ?_⟩
   (try replace ho1 := Kd.S_N ho1)
   replace HO350 := zM (Kd.V_mono (Kd.V_told (Kd.V_told (Kd.V_old (mV HO350.out) hb) (Kd.R_base ho0)) (by first | exact Kd.N_base ho1 | exact Kd.N_base (Kd.R_N ho1))) (fun _ h_ => h_.1))
   replace HO353 := zM (Kd.V_mono (Kd.V_told (Kd.V_told (Kd.V_old (mV HO353.out) hb) (Kd.R_base ho0)) (by first | exact Kd.N_base ho1 | exact Kd.N_base (Kd.R_N ho1))) (fun _ h_ => h_.1))
   have HO362 := zM (Kd.R_lower (Kd.R_new' ho0 (Kd.R_lt (mR HO314.out))) (below_size mZ))
   have HO365 := zM (Kd.N_lower (Kd.N_mono (ok' := fun k_ => some k_ ≠ (v361 : Value).ownBlock ∧ nb k_ Ao17 t312.length co17 ∧ nb k_ Ao18 t315.length co18 ∧ nb k_ Ao26 y329.length co26 ∧ k_ ≠ gb354) (Kd.R_N (Kd.R_bound ho1)) (fun k_ hk_ => ⟨hk_.1, (fR HO314 hk_.2.1), (fN HO317 hk_.2.1), (fN HO331 hk_.2.1), (fK BK354 hk_.2.1)⟩)) (below_size mZ))
   replace HO314 := zM (Kd.R_elder' (mR HO314.out) (Kd.R_base ho0) hb)
   replace HO317 := zM (Kd.N_mono (Kd.N_told (Kd.N_told (Kd.N_old (mN HO317.out) hb) (Kd.R_base ho0)) (by first | exact Kd.N_base ho1 | exact Kd.N_base (Kd.R_N ho1))) (fun _ h_ => h_.1))
   replace HO331 := zM (Kd.N_mono (Kd.N_told (Kd.N_told (Kd.N_old (mN HO331.out) hb) (Kd.R_base ho0)) (by first | exact Kd.N_base ho1 | exact Kd.N_base (Kd.R_N ho1))) (fun _ h_ => h_.1))
   replace BK354 := zK BK354 hb
   replace HB := zM (below_step mZ hb)
   (try clear hb)
   (try clear hb2)
   (try clear hk)
   (try clear hi)
   (try clear ho0)
   (try clear ho1)
   obtain ⟨Ao38, co38, eo38⟩ := Kd.R_slice HO362.out
   (first | subst eo38 | (injection eo38 with f1_ f2_ f3_; have f4_ := f1_.symm; have f5_ := f3_.symm; clear f1_ f2_ f3_; subst f4_; subst f5_))
   obtain ⟨Ao39, co39, eo39⟩ := Kd.N_slice HO365.out
   (first | subst eo39 | (injection eo39 with f1_ f2_ f3_; have f4_ := f1_.symm; have f5_ := f3_.symm; clear f1_ f2_ f3_; subst f4_; subst f5_))
   refine hK.out _ _ (zJ7 BK354) (fun hHeld => ?_)
   clear hK K
   refine norm_ (a' := ?_) ?_ ?_
   rotate_left
   ·show Act.put _ (some 10) _ = _
    simp only [Act.put, List.setIfInBounds_toArray, List.set_cons_zero, List.set_cons_succ, i64_w, i32_w]
    rfl
   refine one_ (i := 2) (N := some 11) #[true, true, true, false, false, false, false, false, false, false, false, false, false, false, false, false, false, false, false] rfl rfl (one_of HT_.out (by kernel_rfl)) (by decide) (fun K hK => ?_)
   refine goes_ Try.func16 (by kernel_rfl) rfl #[.agg #[.int .i64 t355, .string t356, .int .i64 t357, .int .i64 t358, .string t359, .slice Ao38 t360.length co38, .slice Ao39 t363.length co39], .int .i64 1] (by rfl) rfl rfl yb ?_
   with_reducible refine (columbariumlaw13_nots.calls k t355 t356 t357 t358 t359 (fun k_ => some k_ = (.slice Ao38 t360.length co38 : Value).ownBlock) _ _ t360 (fun k_ => (nb k_ Ao38 t360.length co38 ∧ (nb k_ Ao17 t312.length co17 ∧ (nb k_ Ao18 t315.length co18 ∧ (nb k_ Ao26 y329.length co26 ∧ k_ ≠ gb354))))) _ _ t363 1 t366 t367 t368 t369 t370 t371 t374 _ ?side1 ?side2 A7.out).mono ?_
   (case side1 => exact Kd.R_V (Kd.R_tight rfl (Kd.R_types (Kd.R_apart' (Kd.R_apart' (Kd.R_apart' (HO362.out) (Kd.N_typed HO317.out) (by decide)) (Kd.N_typed HO331.out) (by decide)) (Kd.N_typed HO365.out) (by decide)) BK354.out (by decide))))
   (case side2 => exact Kd.N_V (HO365.out))
   rintro e w40 ⟨v372, v375, rfl, ho0, ho1, hb⟩
   refine ⟨_, rfl, ?_⟩
   replace HO350 := zV HO350 hb
   replace HO353 := zV HO353 hb
   have HO373 := zM (Kd.V_lower (Kd.V_mono (ok' := fun k_ => nb k_ Ao17 t312.length co17 ∧ nb k_ Ao18 t315.length co18 ∧ nb k_ Ao26 y329.length co26 ∧ k_ ≠ gb354) ho0 (fun k_ hk_ => Or.elim hk_ (fun hs_ => Or.elim hs_ (fun hs_ => ⟨((Kd.R_types (Kd.R_apart' (Kd.R_apart' (Kd.R_apart' (HO362.out) (Kd.N_typed HO317.out) (by decide)) (Kd.N_typed HO331.out) (by decide)) (Kd.N_typed HO365.out) (by decide)) BK354.out (by decide)).1 k_ hs_.symm).1.1.1.1.2, ((Kd.R_types (Kd.R_apart' (Kd.R_apart' (Kd.R_apart' (HO362.out) (Kd.N_typed HO317.out) (by decide)) (Kd.N_typed HO331.out) (by decide)) (Kd.N_typed HO365.out) (by decide)) BK354.out (by decide)).1 k_ hs_.symm).1.1.1.2, ((Kd.R_types (Kd.R_apart' (Kd.R_apart' (Kd.R_apart' (HO362.out) (Kd.N_typed HO317.out) (by decide)) (Kd.N_typed HO331.out) (by decide)) (Kd.N_typed HO365.out) (by decide)) BK354.out (by decide)).1 k_ hs_.symm).1.1.2, ((Kd.R_types (Kd.R_apart' (Kd.R_apart' (Kd.R_apart' (HO362.out) (Kd.N_typed HO317.out) (by decide)) (Kd.N_typed HO331.out) (by decide)) (Kd.N_typed HO365.out) (by decide)) BK354.out (by decide)).1 k_ hs_.symm).2⟩) (fun hs_ => ⟨hs_.2.1, hs_.2.2.1, hs_.2.2.2.1, hs_.2.2.2.2⟩)) (fun hn_ => ⟨(fR HO314 hn_), (fN HO317 hn_), (fN HO331 hn_), (fK BK354 hn_)⟩))) (below_size mZ))
   have HO376 := zM (Kd.V_lower (Kd.V_mono (ok' := fun k_ => nb k_ Ao17 t312.length co17 ∧ nb k_ Ao18 t315.length co18 ∧ nb k_ Ao26 y329.length co26 ∧ k_ ≠ gb354) ho1 (fun k_ hk_ => Or.elim hk_ (fun hs_ => Or.elim hs_ (fun hs_ => ⟨((Kd.R_types (Kd.R_apart' (Kd.R_apart' (Kd.R_apart' (HO362.out) (Kd.N_typed HO317.out) (by decide)) (Kd.N_typed HO331.out) (by decide)) (Kd.N_typed HO365.out) (by decide)) BK354.out (by decide)).1 k_ hs_.symm).1.1.1.1.2, ((Kd.R_types (Kd.R_apart' (Kd.R_apart' (Kd.R_apart' (HO362.out) (Kd.N_typed HO317.out) (by decide)) (Kd.N_typed HO331.out) (by decide)) (Kd.N_typed HO365.out) (by decide)) BK354.out (by decide)).1 k_ hs_.symm).1.1.1.2, ((Kd.R_types (Kd.R_apart' (Kd.R_apart' (Kd.R_apart' (HO362.out) (Kd.N_typed HO317.out) (by decide)) (Kd.N_typed HO331.out) (by decide)) (Kd.N_typed HO365.out) (by decide)) BK354.out (by decide)).1 k_ hs_.symm).1.1.2, ((Kd.R_types (Kd.R_apart' (Kd.R_apart' (Kd.R_apart' (HO362.out) (Kd.N_typed HO317.out) (by decide)) (Kd.N_typed HO331.out) (by decide)) (Kd.N_typed HO365.out) (by decide)) BK354.out (by decide)).1 k_ hs_.symm).2⟩) (fun hs_ => ⟨hs_.2.1, hs_.2.2.1, hs_.2.2.2.1, hs_.2.2.2.2⟩)) (fun hn_ => ⟨(fR HO314 hn_), (fN HO317 hn_), (fN HO331 hn_), (fK BK354 hn_)⟩))) (below_size mZ))
   replace HO314 := zR HO314 hb
   replace HO317 := zN HO317 hb
   replace HO331 := zN HO331 hb
   replace HO362 := zR HO362 hb
   replace HO365 := zN HO365 hb
   replace BK354 := zK BK354 hb
   replace HB := zM (below_step mZ hb)
   (try clear hb)
   (try clear hb2)
   (try clear hk)
   (try clear hi)
   (try clear ho0)
   (try clear ho1)
   refine hK.out _ _ (zJ7 BK354) (fun hHeld => ?_)
   clear hK K
   refine norm_ (a' := ?_) ?_ ?_
   rotate_left
   ·show Act.put _ (some 11) _ = _
    simp only [Act.put, List.setIfInBounds_toArray, List.set_cons_zero, List.set_cons_succ, i64_w, i32_w]
    rfl
   refine one_ (i := 3) (N := some 12) #[true, true, true, true, false, false, false, false, false, false, false, false, false, false, false, false, false, false, false] rfl rfl (one_of HT_.out (by kernel_rfl)) (by decide) (fun K hK => ?_)
   refine goes_ Try.func18 (by kernel_rfl) rfl #[.string (⟨#[121]⟩ : ByteArray)] (by rfl) rfl rfl yb ?_
   with_reducible refine (columbariumlaw13_null.calls (⟨#[121]⟩ : ByteArray) t377 t378 t379 t380 t381 t382 t385 _ A8.out).mono ?_
   rintro e w41 ⟨v383, v386, rfl, ho0, ho1, hb⟩
   refine ⟨_, rfl, ?_⟩
   (try replace ho1 := Kd.S_N ho1)
   replace HO350 := zM (Kd.V_mono (Kd.V_told (Kd.V_told (Kd.V_old (mV HO350.out) hb) (Kd.R_base ho0)) (by first | exact Kd.N_base ho1 | exact Kd.N_base (Kd.R_N ho1))) (fun _ h_ => h_.1))
   replace HO353 := zM (Kd.V_mono (Kd.V_told (Kd.V_told (Kd.V_old (mV HO353.out) hb) (Kd.R_base ho0)) (by first | exact Kd.N_base ho1 | exact Kd.N_base (Kd.R_N ho1))) (fun _ h_ => h_.1))
   replace HO373 := zM (Kd.V_mono (Kd.V_told (Kd.V_told (Kd.V_old (mV HO373.out) hb) (Kd.R_base ho0)) (by first | exact Kd.N_base ho1 | exact Kd.N_base (Kd.R_N ho1))) (fun _ h_ => h_.1))
   replace HO376 := zM (Kd.V_mono (Kd.V_told (Kd.V_told (Kd.V_old (mV HO376.out) hb) (Kd.R_base ho0)) (by first | exact Kd.N_base ho1 | exact Kd.N_base (Kd.R_N ho1))) (fun _ h_ => h_.1))
   have HO384 := zM (Kd.R_lower (Kd.R_new' (Kd.R_new' ho0 (Kd.R_lt (mR HO314.out))) (Kd.R_lt (mR HO362.out))) (below_size mZ))
   have HO387 := zM (Kd.N_lower (Kd.N_mono (ok' := fun k_ => some k_ ≠ (v383 : Value).ownBlock ∧ nb k_ Ao17 t312.length co17 ∧ nb k_ Ao18 t315.length co18 ∧ nb k_ Ao26 y329.length co26 ∧ nb k_ Ao38 t360.length co38 ∧ nb k_ Ao39 t363.length co39 ∧ k_ ≠ gb354) (Kd.R_N (Kd.R_bound ho1)) (fun k_ hk_ => ⟨hk_.1, (fR HO314 hk_.2.1), (fN HO317 hk_.2.1), (fN HO331 hk_.2.1), (fR HO362 hk_.2.1), (fN HO365 hk_.2.1), (fK BK354 hk_.2.1)⟩)) (below_size mZ))
   replace HO314 := zM (Kd.R_elder' (mR HO314.out) (Kd.R_base ho0) hb)
   replace HO317 := zM (Kd.N_mono (Kd.N_told (Kd.N_told (Kd.N_old (mN HO317.out) hb) (Kd.R_base ho0)) (by first | exact Kd.N_base ho1 | exact Kd.N_base (Kd.R_N ho1))) (fun _ h_ => h_.1))
   replace HO331 := zM (Kd.N_mono (Kd.N_told (Kd.N_told (Kd.N_old (mN HO331.out) hb) (Kd.R_base ho0)) (by first | exact Kd.N_base ho1 | exact Kd.N_base (Kd.R_N ho1))) (fun _ h_ => h_.1))
   replace HO362 := zM (Kd.R_elder' (mR HO362.out) (Kd.R_base ho0) hb)
   replace HO365 := zM (Kd.N_mono (Kd.N_told (Kd.N_told (Kd.N_old (mN HO365.out) hb) (Kd.R_base ho0)) (by first | exact Kd.N_base ho1 | exact Kd.N_base (Kd.R_N ho1))) (fun _ h_ => h_.1))
   replace BK354 := zK BK354 hb
   replace HB := zM (below_step mZ hb)
   (try clear hb)
   (try clear hb2)
   (try clear hk)
   (try clear hi)
   (try clear ho0)
   (try clear ho1)
   obtain ⟨Ao42, co42, eo42⟩ := Kd.V_slice HO373.out
   (first | subst eo42 | (injection eo42 with f1_ f2_ f3_; have f4_ := f1_.symm; have f5_ := f3_.symm; clear f1_ f2_ f3_; subst f4_; subst f5_))
   obtain ⟨Ao43, co43, eo43⟩ := Kd.V_slice HO376.out
   (first | subst eo43 | (injection eo43 with f1_ f2_ f3_; have f4_ := f1_.symm; have f5_ := f3_.symm; clear f1_ f2_ f3_; subst f4_; subst f5_))
   obtain ⟨Ao44, co44, eo44⟩ := Kd.R_slice HO384.out
   (first | subst eo44 | (injection eo44 with f1_ f2_ f3_; have f4_ := f1_.symm; have f5_ := f3_.symm; clear f1_ f2_ f3_; subst f4_; subst f5_))
   obtain ⟨Ao45, co45, eo45⟩ := Kd.N_slice HO387.out
   (first | subst eo45 | (injection eo45 with f1_ f2_ f3_; have f4_ := f1_.symm; have f5_ := f3_.symm; clear f1_ f2_ f3_; subst f4_; subst f5_))
   refine hK.out _ _ (zJ7 BK354) (fun hHeld => ?_)
   clear hK K
   refine norm_ (a' := ?_) ?_ ?_
   rotate_left
   ·show Act.put _ (some 12) _ = _
    simp only [Act.put, List.setIfInBounds_toArray, List.set_cons_zero, List.set_cons_succ, i64_w, i32_w]
    rfl
   refine one_ (i := 4) (N := some 13) #[true, true, true, true, true, false, false, false, false, false, false, false, false, false, false, false, false, false, false] rfl rfl (one_of HT_.out (by kernel_rfl)) (by decide) (fun K hK => ?_)
   refine Kd.N_lit_step k25 _ 25 ?hg (N' := 13) ?hd (xs := ([(⟨t366, t367, t368, t369, t370, t371, t374⟩ : S25), (⟨t377, t378, t379, t380, t381, t382, t385⟩ : S25)] : List (S25))) (inner := [.int .i64 t366, .string t367, .int .i64 t368, .int .i64 t369, .string t370, .slice Ao42 t371.length co42, .slice Ao43 t374.length co43, .int .i64 t377, .string t378, .int .i64 t379, .int .i64 t380, .string t381, .slice Ao44 t382.length co44, .slice Ao45 t385.length co45]) (ok := (fun k_ => nb k_ Ao17 t312.length co17 ∧ nb k_ Ao18 t315.length co18 ∧ nb k_ Ao26 y329.length co26 ∧ k_ ≠ gb354)) (okp := (fun k_ => nb k_ Ao17 t312.length co17 ∧ nb k_ Ao18 t315.length co18 ∧ nb k_ Ao26 y329.length co26 ∧ k_ ≠ gb354)) ?hr ?hp (fun _ hk => hk) ⟨fR HO314 (Nat.le_refl _), fN HO317 (Nat.le_refl _), fN HO331 (Nat.le_refl _), fK BK354 (Nat.le_refl _)⟩ (Below.refl _ _) (Nat.le_refl _) (by simp) ?_; (case hd => rfl); (case hg => rfl); (case hr => first | (go_simp; done) | (go_simp; rfl)); (case hp => exact (Reps.c7 (show Kd.FK k25 _ _ (⟨t366, t367, t368, t369, t370, t371, t374⟩ : S25) [.int .i64 t366, .string t367, .int .i64 t368, .int .i64 t369, .string t370, .slice Ao42 t371.length co42, .slice Ao43 t374.length co43] from (k25_mkF _ _ (⟨t366, t367, t368, t369, t370, t371, t374⟩ : S25) (Kd.V_reads' (Kd.V_mono (ok' := (fun k_ => nb k_ Ao17 t312.length co17 ∧ nb k_ Ao18 t315.length co18 ∧ nb k_ Ao26 y329.length co26 ∧ k_ ≠ gb354)) (HO373.out) (fun k_ hk => ⟨hk.1.1.1, ⟨hk.1.1.2.1, ⟨hk.1.1.2.2.1, hk.1.1.2.2.2⟩⟩⟩))).2.1 (Kd.V_F (by (with_reducible repeat (first | apply Kd.V_alloc | apply Kd.V_drewN | apply Kd.V_drew)); exact (Kd.V_mono (ok' := (fun k_ => nb k_ Ao17 t312.length co17 ∧ nb k_ Ao18 t315.length co18 ∧ nb k_ Ao26 y329.length co26 ∧ k_ ≠ gb354)) (HO373.out) (fun k_ hk => ⟨hk.1.1.1, ⟨hk.1.1.2.1, ⟨hk.1.1.2.2.1, hk.1.1.2.2.2⟩⟩⟩)))) (Kd.V_reads' (Kd.V_mono (ok' := (fun k_ => nb k_ Ao17 t312.length co17 ∧ nb k_ Ao18 t315.length co18 ∧ nb k_ Ao26 y329.length co26 ∧ k_ ≠ gb354)) (HO376.out) (fun k_ hk => ⟨hk.1.1.1, ⟨hk.1.1.2.1, ⟨hk.1.1.2.2.1, hk.1.1.2.2.2⟩⟩⟩))).2.1 (Kd.V_F (by (with_reducible repeat (first | apply Kd.V_alloc | apply Kd.V_drewN | apply Kd.V_drew)); exact (Kd.V_mono (ok' := (fun k_ => nb k_ Ao17 t312.length co17 ∧ nb k_ Ao18 t315.length co18 ∧ nb k_ Ao26 y329.length co26 ∧ k_ ≠ gb354)) (HO376.out) (fun k_ hk => ⟨hk.1.1.1, ⟨hk.1.1.2.1, ⟨hk.1.1.2.2.1, hk.1.1.2.2.2⟩⟩⟩)))))) (Reps.c7 (show Kd.FK k25 _ _ (⟨t377, t378, t379, t380, t381, t382, t385⟩ : S25) [.int .i64 t377, .string t378, .int .i64 t379, .int .i64 t380, .string t381, .slice Ao44 t382.length co44, .slice Ao45 t385.length co45] from (k25_mkF _ _ (⟨t377, t378, t379, t380, t381, t382, t385⟩ : S25) (Kd.R_reads' (Kd.R_mono (ok' := (fun k_ => nb k_ Ao17 t312.length co17 ∧ nb k_ Ao18 t315.length co18 ∧ nb k_ Ao26 y329.length co26 ∧ k_ ≠ gb354)) (Kd.R_types (Kd.R_apart' (Kd.R_apart' (HO384.out) (Kd.N_typed HO317.out) (by decide)) (Kd.N_typed HO331.out) (by decide)) BK354.out (by decide)) (fun k_ hk => ⟨hk.1.1.1.1.2, ⟨hk.1.1.2, ⟨hk.1.2, hk.2⟩⟩⟩))).2.1 (Kd.R_F (by (with_reducible repeat (first | apply Kd.R_alloc | apply Kd.R_drewN | apply Kd.R_drew)); exact (Kd.R_mono (ok' := (fun k_ => nb k_ Ao17 t312.length co17 ∧ nb k_ Ao18 t315.length co18 ∧ nb k_ Ao26 y329.length co26 ∧ k_ ≠ gb354)) (Kd.R_types (Kd.R_apart' (Kd.R_apart' (HO384.out) (Kd.N_typed HO317.out) (by decide)) (Kd.N_typed HO331.out) (by decide)) BK354.out (by decide)) (fun k_ hk => ⟨hk.1.1.1.1.2, ⟨hk.1.1.2, ⟨hk.1.2, hk.2⟩⟩⟩)))) (Kd.N_reads' (Kd.N_mono (ok' := (fun k_ => nb k_ Ao17 t312.length co17 ∧ nb k_ Ao18 t315.length co18 ∧ nb k_ Ao26 y329.length co26 ∧ k_ ≠ gb354)) (HO387.out) (fun k_ hk => ⟨hk.2.1, ⟨hk.2.2.1, ⟨hk.2.2.2.1, hk.2.2.2.2.2.2⟩⟩⟩))).2.1 (Kd.N_F (by (with_reducible repeat (first | apply Kd.N_alloc | apply Kd.N_drewN | apply Kd.N_drew)); exact (Kd.N_mono (ok' := (fun k_ => nb k_ Ao17 t312.length co17 ∧ nb k_ Ao18 t315.length co18 ∧ nb k_ Ao26 y329.length co26 ∧ k_ ≠ gb354)) (HO387.out) (fun k_ hk => ⟨hk.2.1, ⟨hk.2.2.1, ⟨hk.2.2.2.1, hk.2.2.2.2.2.2⟩⟩⟩)))))) (Reps.none _ _))))
   intro v389 w46 ho47 hb hg_ hnew_
   clear hg_ hnew_
   (first | rw [← Ny388.out] at ho47 | (simp only [Int.reduceToNat] at ho47; rw [← Ny388.out] at ho47))
   replace HO314 := zR HO314 hb
   replace HO317 := zM (Kd.N_elder' (mN HO317.out) (by first | exact Kd.N_base ho47 | exact Kd.N_base (Kd.R_N ho47)) hb)
   replace HO331 := zM (Kd.N_elder' (mN HO331.out) (by first | exact Kd.N_base ho47 | exact Kd.N_base (Kd.R_N ho47)) hb)
   replace HO350 := zM (Kd.V_elder' (mV HO350.out) (by first | exact Kd.N_base ho47 | exact Kd.N_base (Kd.R_N ho47)) hb)
   replace HO353 := zM (Kd.V_elder' (mV HO353.out) (by first | exact Kd.N_base ho47 | exact Kd.N_base (Kd.R_N ho47)) hb)
   replace HO362 := zR HO362 hb
   replace HO365 := zM (Kd.N_elder' (mN HO365.out) (by first | exact Kd.N_base ho47 | exact Kd.N_base (Kd.R_N ho47)) hb)
   have HO390 := zM (Kd.N_lower ho47 (below_size mZ))
   replace BK354 := zK BK354 hb
   replace HB := zM (below_step mZ hb)
   clear HO384 HO387
   clear hb ho47
   obtain ⟨Ao48, co48, eo48⟩ := Kd.N_slice HO390.out
   (first | subst eo48 | (injection eo48 with f1_ f2_ f3_; have f4_ := f1_.symm; have f5_ := f3_.symm; clear f1_ f2_ f3_; subst f4_; subst f5_))
   refine hK.out _ _ (zJ7 BK354) (fun hHeld => ?_)
   clear hK K
   refine norm_ (a' := ?_) ?_ ?_
   rotate_left
   ·show Act.put _ (some 13) _ = _
    simp only [Act.put, List.setIfInBounds_toArray, List.set_cons_zero, List.set_cons_succ, i64_w, i32_w]
    rfl
   refine pure_ (i := 5) (N := some 14) (v := ?_) (a' := ?_) #[true, true, true, true, true, true, false, false, false, false, false, false, false, false, false, false, false, false, false] rfl rfl (any_of HT_.out (by kernel_rfl)) (fun _ _ _ h => h) (Or.inl ⟨by rfl, ?_⟩) ?_ ?_
   rotate_left
   ·intro w'
    go_simp
    with_reducible rfl
   rotate_left
   ·simp only [Act.put, List.setIfInBounds_toArray, List.set_cons_zero, List.set_cons_succ, i64_w, i32_w]
    rfl
   refine one_ (i := 6) (N := some 15) #[true, true, true, true, true, true, true, false, false, false, false, false, false, false, false, false, false, false, false] rfl rfl (one_of HT_.out (by kernel_rfl)) (by decide) (fun K hK => ?_)
   refine goes_ Try.func9 (by kernel_rfl) rfl #[.agg #[.int .i64 t343, .string t344, .int .i64 t345, .int .i64 t346, .string t347, .slice Ao33 t348.length co33, .slice Ao34 t351.length co34], .agg #[.int .i64 2, .string (⟨#[]⟩ : ByteArray), .int .i64 0, .int .i64 0, .string (⟨#[]⟩ : ByteArray), .slice none 0 0, .slice Ao48 y388.length co48]] (by rfl) rfl rfl yb ?_
   refine (columbariumkeep_Pred.calls k t343 t344 t345 t346 t347 _ _ t348 _ _ t351 2 (⟨#[]⟩ : ByteArray) 0 0 (⟨#[]⟩ : ByteArray) _ _ ([] : List ByteArray) _ _ y388 true _ ?side1 ?side2 ?side3 ?side4 ?side5 ?side6 ?side7 ?side8 A9.out).mono ?_
   (case side1 => exact zC ((Kd.V_reads' HO350.out).2.2))
   (case side2 => exact (Kd.V_reads' HO350.out).2.1)
   (case side3 => exact zC ((Kd.V_reads' HO353.out).2.2))
   (case side4 => exact (Kd.V_reads' HO353.out).2.1)
   (case side5 => exact Kd.C_nil _ _)
   (case side6 => exact Nat.le_refl _)
   (case side7 => exact zC ((Kd.N_reads' HO390.out).2.2))
   (case side8 => exact (Kd.N_reads' HO390.out).2.1)
   rintro e w49 ⟨rfl, hb⟩
   refine ⟨_, rfl, ?_⟩
   replace HO314 := zR HO314 hb
   replace HO317 := zN HO317 hb
   replace HO331 := zN HO331 hb
   replace HO362 := zR HO362 hb
   replace HO365 := zN HO365 hb
   replace HO390 := zN HO390 hb
   replace BK354 := zK BK354 hb
   replace HB := zM (below_step mZ hb)
   (try clear hb)
   (try clear hb2)
   (try clear hk)
   (try clear hi)
   refine hK.out _ _ (zJ7 BK354) (fun hHeld => ?_)
   clear hK K
   refine norm_ (a' := ?_) ?_ ?_
   rotate_left
   ·show Act.put _ (some 15) _ = _
    simp only [Act.put, List.setIfInBounds_toArray, List.set_cons_zero, List.set_cons_succ, i64_w, i32_w]
    rfl
   refine pure_ (i := 7) (N := some 16) (v := ?_) (a' := ?_) #[true, true, true, true, true, true, true, true, false, false, false, false, false, false, false, false, false, false, false] rfl rfl (any_of HT_.out (by kernel_rfl)) (fun _ _ _ h => h) (Or.inl ⟨by rfl, ?_⟩) ?_ ?_
   rotate_left
   ·intro w'
    go_simp
    with_reducible rfl
   rotate_left
   ·simp only [Act.put, List.setIfInBounds_toArray, List.set_cons_zero, List.set_cons_succ, i64_w, i32_w]
    rfl
   refine pure_ (i := 9) (N := some 18) (v := ?_) (a' := ?_) #[true, true, true, true, true, true, true, true, false, true, false, false, false, false, false, false, false, false, false] rfl rfl (any_of HT_.out (by kernel_rfl)) (fun _ _ _ h => h) (Or.inl ⟨by rfl, ?_⟩) ?_ ?_
   rotate_left
   ·intro w'
    go_simp
    with_reducible rfl
   rotate_left
   ·simp only [Act.put, List.setIfInBounds_toArray, List.set_cons_zero, List.set_cons_succ, i64_w, i32_w]
    rfl
   refine one_ (i := 8) (N := some 17) #[true, true, true, true, true, true, true, true, true, true, false, false, false, false, false, false, false, false, false] rfl rfl (one_of HT_.out (by kernel_rfl)) (by decide) (fun K hK => ?_)
   refine goes_ Try.func29 (by kernel_rfl) rfl #[] (by rfl) rfl rfl yb ?_
   with_reducible refine (columbariumkeep_Everything.calls  t392 t393 t394 t395 t396 t397 t400 _ A11.out).mono ?_
   rintro e w50 ⟨v398, v401, rfl, ho0, ho1, hb⟩
   refine ⟨_, rfl, ?_⟩
   (try replace ho1 := Kd.S_N ho1)
   have HO399 := zM (Kd.R_lower (Kd.R_new' (Kd.R_new' ho0 (Kd.R_lt (mR HO314.out))) (Kd.R_lt (mR HO362.out))) (below_size mZ))
   have HO402 := zM (Kd.N_lower (Kd.N_mono (ok' := fun k_ => some k_ ≠ (v398 : Value).ownBlock ∧ nb k_ Ao17 t312.length co17 ∧ nb k_ Ao18 t315.length co18 ∧ nb k_ Ao26 y329.length co26 ∧ nb k_ Ao38 t360.length co38 ∧ nb k_ Ao39 t363.length co39 ∧ nb k_ Ao48 y388.length co48 ∧ k_ ≠ gb354) (Kd.R_N (Kd.R_bound ho1)) (fun k_ hk_ => ⟨hk_.1, (fR HO314 hk_.2.1), (fN HO317 hk_.2.1), (fN HO331 hk_.2.1), (fR HO362 hk_.2.1), (fN HO365 hk_.2.1), (fN HO390 hk_.2.1), (fK BK354 hk_.2.1)⟩)) (below_size mZ))
   replace BK354 := zK BK354 hb
   replace HB := zM (below_step mZ hb)
   (try clear hb)
   (try clear hb2)
   (try clear hk)
   (try clear hi)
   (try clear ho0)
   (try clear ho1)
   obtain ⟨Ao51, co51, eo51⟩ := Kd.R_slice HO399.out
   (first | subst eo51 | (injection eo51 with f1_ f2_ f3_; have f4_ := f1_.symm; have f5_ := f3_.symm; clear f1_ f2_ f3_; subst f4_; subst f5_))
   obtain ⟨Ao52, co52, eo52⟩ := Kd.N_slice HO402.out
   (first | subst eo52 | (injection eo52 with f1_ f2_ f3_; have f4_ := f1_.symm; have f5_ := f3_.symm; clear f1_ f2_ f3_; subst f4_; subst f5_))
   refine hK.out _ _ (zJ7 BK354) (fun hHeld => ?_)
   clear hK K
   refine norm_ (a' := ?_) ?_ ?_
   rotate_left
   ·show Act.put _ (some 17) _ = _
    simp only [Act.put, List.setIfInBounds_toArray, List.set_cons_zero, List.set_cons_succ, i64_w, i32_w]
    rfl
   refine one_ (i := 10) (N := some 19) #[true, true, true, true, true, true, true, true, true, true, true, false, false, false, false, false, false, false, false] rfl rfl (one_of HT_.out (by kernel_rfl)) (by decide) (fun K hK => ?_)
   refine goes_ Try.func15 (by kernel_rfl) rfl #[.agg #[.int .i64 t392, .string t393, .int .i64 t394, .int .i64 t395, .string t396, .slice Ao51 t397.length co51, .slice Ao52 t400.length co52], .agg #[.int .i64 0, .int .i64 0, .slice none 0 0]] (by rfl) rfl rfl yb ?_
   refine (pred_Eval.calls k t392 t393 t394 t395 t396 _ _ t397 _ _ t400 0 0 _ _ ([] : List (S52)) true _ ?side1 ?side2 ?side3 ?side4 ?side5 ?side6 A12.out).mono ?_
   (case side1 => exact zC ((Kd.R_reads' HO399.out).2.2))
   (case side2 => exact (Kd.R_reads' HO399.out).2.1)
   (case side3 => exact zC ((Kd.N_reads' HO402.out).2.2))
   (case side4 => exact (Kd.N_reads' HO402.out).2.1)
   (case side5 => exact Kd.C_nil _ _)
   (case side6 => exact Nat.le_refl _)
   rintro e w53 ⟨rfl, hb⟩
   refine ⟨_, rfl, ?_⟩
   replace BK354 := zK BK354 hb
   replace HB := zM (below_step mZ hb)
   (try clear hb)
   (try clear hb2)
   (try clear hk)
   (try clear hi)
   refine hK.out _ _ (zJ7 BK354) (fun hHeld => ?_)
   clear hK K
   refine norm_ (a' := ?_) ?_ ?_
   rotate_left
   ·show Act.put _ (some 19) _ = _
    simp only [Act.put, List.setIfInBounds_toArray, List.set_cons_zero, List.set_cons_succ, i64_w, i32_w]
    rfl
   refine pure_ (i := 11) (N := some 20) (v := ?_) (a' := ?_) #[true, true, true, true, true, true, true, true, true, true, true, true, false, false, false, false, false, false, false] rfl rfl (any_of HT_.out (by kernel_rfl)) (fun _ _ _ h => h) (Or.inl ⟨by rfl, ?_⟩) ?_ ?_
   rotate_left
   ·intro w'
    go_simp
    with_reducible rfl
   rotate_left
   ·simp only [Act.put, List.setIfInBounds_toArray, List.set_cons_zero, List.set_cons_succ, i64_w, i32_w]
    rfl
   refine pure_ (i := 12) (N := some 21) (v := ?_) (a' := ?_) #[true, true, true, true, true, true, true, true, true, true, true, true, true, false, false, false, false, false, false] rfl rfl (any_of HT_.out (by kernel_rfl)) (fun _ _ _ h => h) (Or.inl ⟨by rfl, ?_⟩) ?_ ?_
   rotate_left
   ·intro w'
    go_simp
    with_reducible rfl
   rotate_left
   ·simp only [Act.put, List.setIfInBounds_toArray, List.set_cons_zero, List.set_cons_succ, i64_w, i32_w]
    rfl
   refine pure_ (i := 13) (N := some 22) (v := ?_) (a' := ?_) #[true, true, true, true, true, true, true, true, true, true, true, true, true, true, false, false, false, false, false] rfl rfl (any_of HT_.out (by kernel_rfl)) (fun _ _ _ h => h) (Or.inl ⟨by rfl, ?_⟩) ?_ ?_
   rotate_left
   ·intro w'
    go_simp
    with_reducible rfl
   rotate_left
   ·simp only [Act.put, List.setIfInBounds_toArray, List.set_cons_zero, List.set_cons_succ, i64_w, i32_w]
    rfl
   refine pure_ (i := 14) (N := some 23) (v := ?_) (a' := ?_) #[true, true, true, true, true, true, true, true, true, true, true, true, true, true, true, false, false, false, false] rfl rfl (any_of HT_.out (by kernel_rfl)) (fun _ _ _ h => h) (Or.inl ⟨by rfl, ?_⟩) ?_ ?_
   rotate_left
   ·intro w'
    go_simp
    with_reducible rfl
   rotate_left
   ·simp only [Act.put, List.setIfInBounds_toArray, List.set_cons_zero, List.set_cons_succ, i64_w, i32_w]
    rfl
   refine one_ (i := 15) (N := some 24) #[true, true, true, true, true, true, true, true, true, true, true, true, true, true, true, true, false, false, false] rfl rfl (one_of HT_.out (by kernel_rfl)) (by decide) (fun K hK => ?_)
   refine goes_ Try.func15 (by kernel_rfl) rfl #[.agg #[.int .i64 2, .string (⟨#[]⟩ : ByteArray), .int .i64 0, .int .i64 0, .string (⟨#[]⟩ : ByteArray), .slice none 0 0, .slice none 0 0], .agg #[.int .i64 0, .int .i64 0, .slice none 0 0]] (by rfl) rfl rfl yb ?_
   refine (pred_Eval.calls k 2 (⟨#[]⟩ : ByteArray) 0 0 (⟨#[]⟩ : ByteArray) _ _ ([] : List ByteArray) _ _ ([] : List (S25)) 0 0 _ _ ([] : List (S52)) t404 _ ?side1 ?side2 ?side3 ?side4 ?side5 ?side6 A14.out).mono ?_
   (case side1 => exact Kd.C_nil _ _)
   (case side2 => exact Nat.le_refl _)
   (case side3 => exact Kd.C_nil _ _)
   (case side4 => exact Nat.le_refl _)
   (case side5 => exact Kd.C_nil _ _)
   (case side6 => exact Nat.le_refl _)
   rintro e w54 ⟨rfl, hb⟩
   refine ⟨_, rfl, ?_⟩
   replace BK354 := zK BK354 hb
   replace HB := zM (below_step mZ hb)
   (try clear hb)
   (try clear hb2)
   (try clear hk)
   (try clear hi)
   refine hK.out _ _ (zJ7 BK354) (fun hHeld => ?_)
   clear hK K
   refine norm_ (a' := ?_) ?_ ?_
   rotate_left
   ·show Act.put _ (some 24) _ = _
    simp only [Act.put, List.setIfInBounds_toArray, List.set_cons_zero, List.set_cons_succ, i64_w, i32_w]
    rfl
   refine pure_ (i := 16) (N := some 25) (v := ?_) (a' := ?_) #[true, true, true, true, true, true, true, true, true, true, true, true, true, true, true, true, true, false, false] rfl rfl (any_of HT_.out (by kernel_rfl)) (fun _ _ _ h => h) (Or.inl ⟨by rfl, ?_⟩) ?_ ?_
   rotate_left
   ·intro w'
    go_simp
    with_reducible rfl
   rotate_left
   ·simp only [Act.put, List.setIfInBounds_toArray, List.set_cons_zero, List.set_cons_succ, i64_w, i32_w]
    rfl
   refine pure_ (i := 17) (N := some 26) (v := ?_) (a' := ?_) #[true, true, true, true, true, true, true, true, true, true, true, true, true, true, true, true, true, true, false] rfl rfl (any_of HT_.out (by kernel_rfl)) (fun _ _ _ h => h) (Or.inl ⟨by rfl, ?_⟩) ?_ ?_
   rotate_left
   ·intro w'
    go_simp
    with_reducible rfl
   rotate_left
   ·simp only [Act.put, List.setIfInBounds_toArray, List.set_cons_zero, List.set_cons_succ, i64_w, i32_w]
    rfl
   refine pure_ (i := 18) (N := some 0) (v := ?_) (a' := ?_) #[true, true, true, true, true, true, true, true, true, true, true, true, true, true, true, true, true, true, true] rfl rfl (any_of HT_.out (by kernel_rfl)) (fun _ _ _ h => h) (Or.inl ⟨by rfl, ?_⟩) ?_ ?_
   rotate_left
   ·intro w'
    go_simp
    with_reducible rfl
   rotate_left
   ·simp only [Act.put, List.setIfInBounds_toArray, List.set_cons_zero, List.set_cons_succ, i64_w, i32_w]
    rfl
   refine done_ (done_of HT_.out (by kernel_rfl)) ?_
   try go_wp2
   go_ret
   exact ⟨by first | rfl | (simp [errW_none, errW_some] <;> rfl) | (simp [*, errW_none, errW_some] <;> rfl), mZ⟩
  replace c13 := Bool.eq_false_iff.mpr c13
  subst c13
  rw [if_neg (show ¬ (false = true) by decide)] at H
  exact absurd ((Option.some.inj H).trans hrt_.out) (by decide)
 replace c10 := Bool.eq_false_iff.mpr c10
 subst c10
 rw [if_neg (show ¬ (false = true) by decide)] at H
 exact absurd ((Option.some.inj H).trans hrt_.out) (by decide)

/-! ### columbariumkeep_Num: function 23 -/
def columbariumkeep_Num.f (a0 : ByteArray) (a1 : Int) : Option (ByteArray × Int × Int × ByteArray) := some (a0, 1, a1, (⟨#[]⟩ : ByteArray))
set_option maxHeartbeats 8000000 in
set_option maxRecDepth 100000 in
theorem columbariumkeep_Num.calls (a0 : ByteArray) (a1 : Int) (r1 : ByteArray) (r2 : Int) (r3 : Int) (r4 : ByteArray) (w : World) (h : columbariumkeep_Num.f a0 a1 = some (r1, r2, r3, r4)) :
  Calls Try.prog 23 #[.string a0, .int .i64 a1] w fun e w' => e = .returned (.agg #[.string r1, .int .i64 r2, .int .i64 r3, .string r4]) ∧ Below w.heap.size w w' := by
 have hu52 := Try.underlying52
 have HB := zM (Below.refl w.heap.size w)
 have H : (some (a0, 1, a1, (⟨#[]⟩ : ByteArray))) = some (r1, r2, r3, r4) := h
 clear h
 simp only [Option.some.injEq, Prod.mk.injEq] at H
 obtain ⟨rfl, rfl, rfl, rfl⟩ := H
 go_enter Try.func23, Try.ntmps23
 go_wp2_with (first | ((with_reducible refine gate_dst (N := 4) rfl ?_); refine box_event ?hg (N := 4) ?hd (cs := #[.string (⟨#[]⟩ : ByteArray), .int .i64 0, .int .i64 0, .string (⟨#[]⟩ : ByteArray)]) (t := 52) ?hr ?_; (case hd => rfl); (case hg => rfl); (case hr => first | (go_simp; done) | (go_simp; rfl)); intro gb405 hg w3 hbox hb; have BK405 := zM (hbox); have GW405 := zM ((by rw [hg]; exact (below_size (mB HB.out)) : w.heap.size ≤ gb405)); replace HB := zM (below_step (mB HB.out) hb); have GE405 := GW405; clear hb hbox hg; obtain ⟨hcz4_0, hcz4_1, hcz4_2, hcz4_3, hfz4_0, hfz4_1, hfz4_2, hfz4_3⟩ := cells_4 BK405.out))
 refine bodyPost_ret (results_cell_row rfl _ _ gb405 52 #[.string a0, .int .i64 1, .int .i64 a1, .string (⟨#[]⟩ : ByteArray)] (0, 0) _ rfl (by (with_reducible repeat (first | refine blk_drewN ?_ _ | refine blk_drew ?_ | refine blk_alloc ?_ _)); apply puts_4; (with_reducible repeat (first | refine blk_drewN ?_ _ | refine blk_drew ?_ | refine blk_alloc ?_ _)); exact BK405.out) Try.underlying52 rfl (by kernel_rfl)) rfl ?_
 exact ⟨by first | rfl | (simp [errW_none, errW_some] <;> rfl) | (simp [*, errW_none, errW_some] <;> rfl), mZ⟩

end Go.Proofs.Ytalpcnomfebdiaa.QPredRules
