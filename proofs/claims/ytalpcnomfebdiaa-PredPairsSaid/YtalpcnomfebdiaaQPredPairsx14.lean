-- Written by a program of this session (wip/myprint.py): the machine's side of a law
import Derived.Test.YtalpcnomfebdiaaQPredPairsx0
import Derived.Test.YtalpcnomfebdiaaQPredPairsx1
import Derived.Test.YtalpcnomfebdiaaQPredPairsx9
import Derived.Test.YtalpcnomfebdiaaQPredPairsx10
import Derived.Test.YtalpcnomfebdiaaQPredPairsx12
import Derived.Test.YtalpcnomfebdiaaQPredPairsx13
namespace Go.Proofs.Ytalpcnomfebdiaa.QPredPairs
open Go.RowKit Go.Proofs.YtalpcnomfebdiaaW.PrintWords Go.Proofs.YtalpcnomfebdiaaW.PrintLast Go.Proofs.YtalpcnomfebdiaaW.PrintMore
attribute [local go_sem] max2_int min2_int max_two min_two max_three min_three max_four min_four   -- for this text's walks alone
set_option linter.unusedVariables false
set_option linter.unusedSimpArgs false
set_option maxHeartbeats 8000000 in
set_option maxRecDepth 100000 in
theorem columbariumlaw13_PredPairs.calls (k : Nat) (a0_0 : Int) (a0_1 : ByteArray) (a0_2 : Int) (a0_3 : Int) (a0_4 : ByteArray) (A0_5 : Option Addr) (c0_5 : Nat) (l0_5 : List ByteArray) (A0_6 : Option Addr) (c0_6 : Nat) (l0_6 : List (S25)) (a1_0 : Int) (a1_1 : ByteArray) (a1_2 : Int) (a1_3 : Int) (a1_4 : ByteArray) (A1_5 : Option Addr) (c1_5 : Nat) (l1_5 : List ByteArray) (A1_6 : Option Addr) (c1_6 : Nat) (l1_6 : List (S25)) (a2_0 : Int) (a2_1 : Int) (A2_2 : Option Addr) (c2_2 : Nat) (l2_2 : List (S52)) (a3 : Int) (a4 : Int) (r : Bool) (w : World) (hr0_5 : Kd.C Kd.string w A0_5 l0_5.length l0_5) (hc0_5 : l0_5.length ≤ c0_5) (hr0_6 : Kd.C k25 w A0_6 l0_6.length l0_6) (hc0_6 : l0_6.length ≤ c0_6) (hr1_5 : Kd.C Kd.string w A1_5 l1_5.length l1_5) (hc1_5 : l1_5.length ≤ c1_5) (hr1_6 : Kd.C k25 w A1_6 l1_6.length l1_6) (hc1_6 : l1_6.length ≤ c1_6) (hr2_2 : Kd.C k52 w A2_2 l2_2.length l2_2) (hc2_2 : l2_2.length ≤ c2_2) (hrt_ : Aside0 (r = true)) (h : columbariumlaw13_PredPairs.f k a0_0 a0_1 a0_2 a0_3 a0_4 l0_5 l0_6 a1_0 a1_1 a1_2 a1_3 a1_4 l1_5 l1_6 a2_0 a2_1 l2_2 a3 a4 = some r) :
  Calls Try.prog 4 #[.agg #[.int .i64 a0_0, .string a0_1, .int .i64 a0_2, .int .i64 a0_3, .string a0_4, .slice A0_5 l0_5.length c0_5, .slice A0_6 l0_6.length c0_6], .agg #[.int .i64 a1_0, .string a1_1, .int .i64 a1_2, .int .i64 a1_3, .string a1_4, .slice A1_5 l1_5.length c1_5, .slice A1_6 l1_6.length c1_6], .agg #[.int .i64 a2_0, .int .i64 a2_1, .slice A2_2 l2_2.length c2_2], .int .i64 a3, .int .i64 a4] w fun e w' => e = .returned (.bool r) ∧ Below w.heap.size w w' := by
 have hu25 := Try.underlying25
 have hu36 := Try.underlying36
 have HR0_5 := zM hr0_5
 have HC0_5 := zM hc0_5
 clear hr0_5 hc0_5
 have HR0_6 := zM hr0_6
 have HC0_6 := zM hc0_6
 clear hr0_6 hc0_6
 have HR1_5 := zM hr1_5
 have HC1_5 := zM hc1_5
 clear hr1_5 hc1_5
 have HR1_6 := zM hr1_6
 have HC1_6 := zM hc1_6
 clear hr1_6 hc1_6
 have HR2_2 := zM hr2_2
 have HC2_2 := zM hc2_2
 clear hr2_2 hc2_2
 have HB := zM (Below.refl w.heap.size w)
 have H : ((columbariumkeep_Cut.f k a0_0 a0_1 a0_2 a0_3 a0_4 l0_5 l0_6 3).bind fun bt440 => ((columbariumkeep_Cut.f k a1_0 a1_1 a1_2 a1_3 a1_4 l1_5 l1_6 3).bind fun bt451 => ((columbariumkeep_Tame.f k a2_0 a2_1 l2_2 1).bind fun bt462 => ((some (([(⟨bt440.1, bt440.2.1, bt440.2.2.1, bt440.2.2.2.1, bt440.2.2.2.2.1, bt440.2.2.2.2.2.1, bt440.2.2.2.2.2.2⟩ : S25), (⟨bt451.1, bt451.2.1, bt451.2.2.1, bt451.2.2.2.1, bt451.2.2.2.2.1, bt451.2.2.2.2.2.1, bt451.2.2.2.2.2.2⟩ : S25)] : List (S25)) : List (S25))).bind fun y468 => ((columbariumlaw13_nots.f k bt440.1 bt440.2.1 bt440.2.2.1 bt440.2.2.2.1 bt440.2.2.2.2.1 bt440.2.2.2.2.2.1 bt440.2.2.2.2.2.2 1).bind fun bt472 => ((columbariumlaw13_nots.f k bt451.1 bt451.2.1 bt451.2.2.1 bt451.2.2.2.1 bt451.2.2.2.2.1 bt451.2.2.2.2.2.1 bt451.2.2.2.2.2.2 1).bind fun bt483 => ((columbariumlaw13_nots.f k 1 (⟨#[]⟩ : ByteArray) 0 0 (⟨#[]⟩ : ByteArray) ([] : List ByteArray) y468 1).bind fun bt498 => ((pred_Eval.f k bt498.1 bt498.2.1 bt498.2.2.1 bt498.2.2.2.1 bt498.2.2.2.2.1 bt498.2.2.2.2.2.1 bt498.2.2.2.2.2.2 bt462.1 bt462.2.1 bt462.2.2).bind fun t509 => ((pred_Eval.f k 2 (⟨#[]⟩ : ByteArray) 0 0 (⟨#[]⟩ : ByteArray) ([] : List ByteArray) (([(⟨bt472.1, bt472.2.1, bt472.2.2.1, bt472.2.2.2.1, bt472.2.2.2.2.1, bt472.2.2.2.2.2.1, bt472.2.2.2.2.2.2⟩ : S25), (⟨bt483.1, bt483.2.1, bt483.2.2.1, bt483.2.2.2.1, bt483.2.2.2.2.1, bt483.2.2.2.2.2.1, bt483.2.2.2.2.2.2⟩ : S25)] : List (S25))) bt462.1 bt462.2.1 bt462.2.2).bind fun t510 => (if (t509 != t510) = true then (columbariumlaw13_PredPairs.j0 k a3 a4 true bt462.1 bt462.2.1 bt462.2.2) else ((pred_Eval.f k 1 (⟨#[]⟩ : ByteArray) 0 0 (⟨#[]⟩ : ByteArray) ([] : List ByteArray) y468 bt462.1 bt462.2.1 bt462.2.2).bind fun t511 => ((pred_Eval.f k bt440.1 bt440.2.1 bt440.2.2.1 bt440.2.2.2.1 bt440.2.2.2.2.1 bt440.2.2.2.2.2.1 bt440.2.2.2.2.2.2 bt462.1 bt462.2.1 bt462.2.2).bind fun t512 => (if t512 = true then ((pred_Eval.f k bt451.1 bt451.2.1 bt451.2.2.1 bt451.2.2.2.1 bt451.2.2.2.2.1 bt451.2.2.2.2.2.1 bt451.2.2.2.2.2.2 bt462.1 bt462.2.1 bt462.2.2).bind fun t513 => (columbariumlaw13_PredPairs.j0 k a3 a4 (t511 != t513) bt462.1 bt462.2.1 bt462.2.2)) else (columbariumlaw13_PredPairs.j0 k a3 a4 (t511 != false) bt462.1 bt462.2.1 bt462.2.2)))))))))))))) = some r := h
 clear h
 replace H := Option.bind_eq_some_iff.mp H
 obtain ⟨⟨t440, t441, t442, t443, t444, t445, t448⟩, A60, H⟩ := H
 try dsimp only at H
 have A6 := zM A60
 clear A60
 replace H := Option.bind_eq_some_iff.mp H
 obtain ⟨⟨t451, t452, t453, t454, t455, t456, t459⟩, A70, H⟩ := H
 try dsimp only at H
 have A7 := zM A70
 clear A70
 replace H := Option.bind_eq_some_iff.mp H
 obtain ⟨⟨t462, t463, t464⟩, A80, H⟩ := H
 try dsimp only at H
 have A8 := zM A80
 clear A80
 obtain ⟨y468, hy468⟩ : ∃ y_ : List (S25), y_ = (([(⟨t440, t441, t442, t443, t444, t445, t448⟩ : S25), (⟨t451, t452, t453, t454, t455, t456, t459⟩ : S25)] : List (S25))) := ⟨_, rfl⟩
 replace H : ((columbariumlaw13_nots.f k t440 t441 t442 t443 t444 t445 t448 1).bind fun bt472 => ((columbariumlaw13_nots.f k t451 t452 t453 t454 t455 t456 t459 1).bind fun bt483 => ((columbariumlaw13_nots.f k 1 (⟨#[]⟩ : ByteArray) 0 0 (⟨#[]⟩ : ByteArray) ([] : List ByteArray) y468 1).bind fun bt498 => ((pred_Eval.f k bt498.1 bt498.2.1 bt498.2.2.1 bt498.2.2.2.1 bt498.2.2.2.2.1 bt498.2.2.2.2.2.1 bt498.2.2.2.2.2.2 t462 t463 t464).bind fun t509 => ((pred_Eval.f k 2 (⟨#[]⟩ : ByteArray) 0 0 (⟨#[]⟩ : ByteArray) ([] : List ByteArray) (([(⟨bt472.1, bt472.2.1, bt472.2.2.1, bt472.2.2.2.1, bt472.2.2.2.2.1, bt472.2.2.2.2.2.1, bt472.2.2.2.2.2.2⟩ : S25), (⟨bt483.1, bt483.2.1, bt483.2.2.1, bt483.2.2.2.1, bt483.2.2.2.2.1, bt483.2.2.2.2.2.1, bt483.2.2.2.2.2.2⟩ : S25)] : List (S25))) t462 t463 t464).bind fun t510 => (if (t509 != t510) = true then (columbariumlaw13_PredPairs.j0 k a3 a4 true t462 t463 t464) else ((pred_Eval.f k 1 (⟨#[]⟩ : ByteArray) 0 0 (⟨#[]⟩ : ByteArray) ([] : List ByteArray) y468 t462 t463 t464).bind fun t511 => ((pred_Eval.f k t440 t441 t442 t443 t444 t445 t448 t462 t463 t464).bind fun t512 => (if t512 = true then ((pred_Eval.f k t451 t452 t453 t454 t455 t456 t459 t462 t463 t464).bind fun t513 => (columbariumlaw13_PredPairs.j0 k a3 a4 (t511 != t513) t462 t463 t464)) else (columbariumlaw13_PredPairs.j0 k a3 a4 (t511 != false) t462 t463 t464)))))))))) = some r := by first | (rw [hy468]; with_reducible exact H) | (have H2_ := (Option.bind_some _ _).symm.trans H; rw [hy468]; with_reducible exact H2_) | (have H2_ := (Option.bind_some _ _).symm.trans H; with_reducible exact H2_) | with_reducible exact H | (rw [hy468]; exact H) | exact H
 have Ny468 := zM hy468
 clear hy468
 replace H := Option.bind_eq_some_iff.mp H
 obtain ⟨⟨t472, t473, t474, t475, t476, t477, t480⟩, A90, H⟩ := H
 try dsimp only at H
 have A9 := zM A90
 clear A90
 replace H := Option.bind_eq_some_iff.mp H
 obtain ⟨⟨t483, t484, t485, t486, t487, t488, t491⟩, A100, H⟩ := H
 try dsimp only at H
 have A10 := zM A100
 clear A100
 obtain ⟨y494, hy494⟩ : ∃ y_ : List (S25), y_ = (([(⟨t472, t473, t474, t475, t476, t477, t480⟩ : S25), (⟨t483, t484, t485, t486, t487, t488, t491⟩ : S25)] : List (S25))) := ⟨_, rfl⟩
 replace H : ((columbariumlaw13_nots.f k 1 (⟨#[]⟩ : ByteArray) 0 0 (⟨#[]⟩ : ByteArray) ([] : List ByteArray) y468 1).bind fun bt498 => ((pred_Eval.f k bt498.1 bt498.2.1 bt498.2.2.1 bt498.2.2.2.1 bt498.2.2.2.2.1 bt498.2.2.2.2.2.1 bt498.2.2.2.2.2.2 t462 t463 t464).bind fun t509 => ((pred_Eval.f k 2 (⟨#[]⟩ : ByteArray) 0 0 (⟨#[]⟩ : ByteArray) ([] : List ByteArray) y494 t462 t463 t464).bind fun t510 => (if (t509 != t510) = true then (columbariumlaw13_PredPairs.j0 k a3 a4 true t462 t463 t464) else ((pred_Eval.f k 1 (⟨#[]⟩ : ByteArray) 0 0 (⟨#[]⟩ : ByteArray) ([] : List ByteArray) y468 t462 t463 t464).bind fun t511 => ((pred_Eval.f k t440 t441 t442 t443 t444 t445 t448 t462 t463 t464).bind fun t512 => (if t512 = true then ((pred_Eval.f k t451 t452 t453 t454 t455 t456 t459 t462 t463 t464).bind fun t513 => (columbariumlaw13_PredPairs.j0 k a3 a4 (t511 != t513) t462 t463 t464)) else (columbariumlaw13_PredPairs.j0 k a3 a4 (t511 != false) t462 t463 t464)))))))) = some r := by first | (rw [hy494]; with_reducible exact H) | (have H2_ := (Option.bind_some _ _).symm.trans H; rw [hy494]; with_reducible exact H2_) | (have H2_ := (Option.bind_some _ _).symm.trans H; with_reducible exact H2_) | with_reducible exact H | (rw [hy494]; exact H) | exact H
 have Ny494 := zM hy494
 clear hy494
 have HC11 := zM H
 clear H
 go_enter Try.func4, Try.ntmps4
 try go_wp2_with (first | ((with_reducible refine gate_dst (N := 5) rfl ?_); refine box_event ?hg (N := 5) ?hd (cs := #[.int .i64 a0_0, .string a0_1, .int .i64 a0_2, .int .i64 a0_3, .string a0_4, .slice A0_5 l0_5.length c0_5, .slice A0_6 l0_6.length c0_6]) (t := 25) ?hr ?_; (case hd => rfl); (case hg => rfl); (case hr => first | (go_simp; done) | (go_simp; rfl)); intro gb437 hg w12 hbox hb; have BK437 := zM (hbox); have GW437 := zM ((by rw [hg]; exact (below_size (mB HB.out)) : w.heap.size ≤ gb437)); replace HB := zM (below_step (mB HB.out) hb); have GE437 := GW437; clear hb hbox hg) | ((with_reducible refine gate_dst (N := 6) rfl ?_); refine box_event ?hg (N := 6) ?hd (cs := #[.int .i64 a1_0, .string a1_1, .int .i64 a1_2, .int .i64 a1_3, .string a1_4, .slice A1_5 l1_5.length c1_5, .slice A1_6 l1_6.length c1_6]) (t := 25) ?hr ?_; (case hd => rfl); (case hg => rfl); (case hr => first | (go_simp; done) | (go_simp; rfl)); intro gb438 hg w13 hbox hb; have BK438 := zM (hbox); have GW438 := zM ((by rw [hg]; exact (below_size mZ) : w.heap.size ≤ gb438)); replace HB := zM (below_step mZ hb); have GE438 := GW438; have NB437_438 := zL BK437 hg; have NB438_437 := zG BK437 hg; replace BK437 := zK BK437 hb; clear hb hbox hg) | ((with_reducible refine gate_dst (N := 7) rfl ?_); refine box_event ?hg (N := 7) ?hd (cs := #[.int .i64 a2_0, .int .i64 a2_1, .slice A2_2 l2_2.length c2_2]) (t := 36) ?hr ?_; (case hd => rfl); (case hg => rfl); (case hr => first | (go_simp; done) | (go_simp; rfl)); intro gb439 hg w14 hbox hb; have BK439 := zM (hbox); have GW439 := zM ((by rw [hg]; exact (below_size mZ) : w.heap.size ≤ gb439)); replace HB := zM (below_step mZ hb); have GE439 := GW439; have NB437_439 := zL BK437 hg; have NB439_437 := zG BK437 hg; replace BK437 := zK BK437 hb; have NB438_439 := zL BK438 hg; have NB439_438 := zG BK438 hg; replace BK438 := zK BK438 hb; clear hb hbox hg; have hnb15 := NB437_438.out; have hnc15 := NB438_437.out; have hnb16 := NB437_439.out; have hnc16 := NB439_437.out; obtain ⟨hcz17_0, hcz17_1, hcz17_2, hcz17_3, hcz17_4, hcz17_5, hcz17_6, hfz17_0, hfz17_1, hfz17_2, hfz17_3, hfz17_4, hfz17_5, hfz17_6⟩ := cells_7 BK437.out) | ((with_reducible refine gate_callee (f := 7) rfl ?_); refine goesL_ (some 21) rfl rfl Try.func7 (by kernel_rfl) rfl #[.agg #[.int .i64 a0_0, .string a0_1, .int .i64 a0_2, .int .i64 a0_3, .string a0_4, .slice A0_5 l0_5.length c0_5, .slice A0_6 l0_6.length c0_6], .int .i64 3] rfl yb ?_; (with_reducible refine (columbariumkeep_Cut.calls k a0_0 a0_1 a0_2 a0_3 a0_4 _ _ l0_5 _ _ l0_6 3 t440 t441 t442 t443 t444 t445 t448 _ ?side1 ?side2 ?side3 ?side4 A6.out).mono ?_); (case side1 => exact zC (Kd.C_below HR0_5.out HB.out)); (case side2 => first | exact HC0_5.out | exact Kd.V_mono HC0_5.out (fun k_ hk_ => by grind)); (case side3 => exact zC (Kd.C_below HR0_6.out HB.out)); (case side4 => first | exact HC0_6.out | exact Kd.V_mono HC0_6.out (fun k_ hk_ => by grind)); rintro e w18 ⟨v446, v449, rfl, ho0, ho1, hb⟩; refine ⟨_, rfl, ?_⟩; (try replace ho1 := Kd.S_N ho1); have HO447 := zM (Kd.R_lower ho0 (below_size mZ)); have HO450 := zM (Kd.N_lower (Kd.N_mono (ok' := fun k_ => some k_ ≠ (v446 : Value).ownBlock ∧ k_ ≠ gb437 ∧ k_ ≠ gb438 ∧ k_ ≠ gb439) (Kd.R_N (Kd.R_bound ho1)) (fun k_ hk_ => ⟨hk_.1, (fK BK437 hk_.2.1), (fK BK438 hk_.2.1), (fK BK439 hk_.2.1)⟩)) (below_size mZ)); replace BK437 := zK BK437 hb; replace BK438 := zK BK438 hb; replace BK439 := zK BK439 hb; replace HB := zM (below_step mZ hb); (try clear hb); (try clear ho0); (try clear ho1); obtain ⟨hcz19_0, hcz19_1, hcz19_2, hcz19_3, hcz19_4, hcz19_5, hcz19_6, hfz19_0, hfz19_1, hfz19_2, hfz19_3, hfz19_4, hfz19_5, hfz19_6⟩ := cells_7 BK437.out; obtain ⟨Ao20, co20, eo20⟩ := Kd.R_slice HO447.out; subst eo20; obtain ⟨Ao21, co21, eo21⟩ := Kd.N_slice HO450.out; subst eo21; have hnb22 := NB438_439.out; have hnc22 := NB439_438.out; obtain ⟨hcz23_0, hcz23_1, hcz23_2, hcz23_3, hcz23_4, hcz23_5, hcz23_6, hfz23_0, hfz23_1, hfz23_2, hfz23_3, hfz23_4, hfz23_5, hfz23_6⟩ := cells_7 BK438.out) | ((with_reducible refine gate_callee (f := 7) rfl ?_); refine goesL_ (some 23) rfl rfl Try.func7 (by kernel_rfl) rfl #[.agg #[.int .i64 a1_0, .string a1_1, .int .i64 a1_2, .int .i64 a1_3, .string a1_4, .slice A1_5 l1_5.length c1_5, .slice A1_6 l1_6.length c1_6], .int .i64 3] rfl yb ?_; (with_reducible refine (columbariumkeep_Cut.calls k a1_0 a1_1 a1_2 a1_3 a1_4 _ _ l1_5 _ _ l1_6 3 t451 t452 t453 t454 t455 t456 t459 _ ?side1 ?side2 ?side3 ?side4 A7.out).mono ?_); (case side1 => exact Kd.C_below HR1_5.out mZ); (case side2 => first | exact HC1_5.out | exact Kd.V_mono HC1_5.out (fun k_ hk_ => by grind)); (case side3 => exact Kd.C_below HR1_6.out mZ); (case side4 => first | exact HC1_6.out | exact Kd.V_mono HC1_6.out (fun k_ hk_ => by grind)); rintro e w24 ⟨v457, v460, rfl, ho0, ho1, hb⟩; refine ⟨_, rfl, ?_⟩; (try replace ho1 := Kd.S_N ho1); have HO458 := zM (Kd.R_lower (Kd.R_new' ho0 (Kd.R_lt (by (with_reducible repeat (first | apply Kd.R_alloc | apply Kd.R_drewN | apply Kd.R_drew)); exact (Kd.R_mono (zgR (Kd.R_types HO447.out BK437.out (by decide))) (fun _ h_ => h_.1))))) (below_size mZ)); have HO461 := zM (Kd.N_lower (Kd.N_mono (ok' := fun k_ => some k_ ≠ (v457 : Value).ownBlock ∧ nb k_ Ao20 t445.length co20 ∧ nb k_ Ao21 t448.length co21 ∧ k_ ≠ gb437 ∧ k_ ≠ gb438 ∧ k_ ≠ gb439) (Kd.R_N (Kd.R_bound ho1)) (fun k_ hk_ => ⟨hk_.1, (Kd.fresh' (Kd.R_lt (by (with_reducible repeat (first | apply Kd.R_alloc | apply Kd.R_drewN | apply Kd.R_drew)); exact (Kd.R_mono (zgR (Kd.R_types HO447.out BK437.out (by decide))) (fun _ h_ => h_.1)))) k_ hk_.2.1), (Kd.fresh' (Kd.N_lt (by (with_reducible repeat (first | apply Kd.N_alloc | apply Kd.N_drewN | apply Kd.N_drew)); exact (Kd.N_mono (zgN (Kd.N_mono HO450.out (fun k_ hk => (⟨hk, hk.2.1⟩ : _ ∧ k_ ≠ gb437)))) (fun _ h_ => h_.1)))) k_ hk_.2.1), (Kd.freshB (g := gb437) (o := .cells #[.int .i64 t440, .string t441, .int .i64 t442, .int .i64 t443, .string t444, .slice Ao20 t445.length co20, .slice Ao21 t448.length co21] 25 (0, 0)) (by (with_reducible repeat (first | refine blk_drewN ?_ _ | refine blk_drew ?_ | refine blk_alloc ?_ _)); apply puts_7; (with_reducible repeat (first | refine blk_drewN ?_ _ | refine blk_drew ?_ | refine blk_alloc ?_ _)); exact BK437.out) k_ hk_.2.1), (Kd.freshB (zF BK438.out NB438_437.out) k_ hk_.2.1), (Kd.freshB (zF BK439.out NB439_437.out) k_ hk_.2.1)⟩)) (below_size mZ)); replace HO447 := zM (Kd.R_elder' (by (with_reducible repeat (first | apply Kd.R_alloc | apply Kd.R_drewN | apply Kd.R_drew)); exact (Kd.R_mono (zgR (Kd.R_types HO447.out BK437.out (by decide))) (fun _ h_ => h_.1))) (Kd.R_base ho0) hb); replace HO450 := zM (Kd.N_mono (Kd.N_told (Kd.N_told (Kd.N_old (by (with_reducible repeat (first | apply Kd.N_alloc | apply Kd.N_drewN | apply Kd.N_drew)); exact (Kd.N_mono (zgN (Kd.N_mono HO450.out (fun k_ hk => (⟨hk, hk.2.1⟩ : _ ∧ k_ ≠ gb437)))) (fun _ h_ => h_.1))) hb) (Kd.R_base ho0)) (by first | exact Kd.N_base ho1 | exact Kd.N_base (Kd.R_N ho1))) (fun _ h_ => h_.1)); replace BK437 := zP7 BK437 hb; replace BK438 := zM (blk_below (zF BK438.out NB438_437.out) hb); replace BK439 := zM (blk_below (zF BK439.out NB439_437.out) hb); replace HB := zM (below_step mZ hb); (try clear hb); (try clear ho0); (try clear ho1); obtain ⟨hcz25_0, hcz25_1, hcz25_2, hcz25_3, hcz25_4, hcz25_5, hcz25_6, hfz25_0, hfz25_1, hfz25_2, hfz25_3, hfz25_4, hfz25_5, hfz25_6⟩ := cells_7 BK438.out; obtain ⟨Ao26, co26, eo26⟩ := Kd.R_slice HO458.out; subst eo26; obtain ⟨Ao27, co27, eo27⟩ := Kd.N_slice HO461.out; subst eo27; obtain ⟨hcz28_0, hcz28_1, hcz28_2, hfz28_0, hfz28_1, hfz28_2⟩ := cells_3 BK439.out) | ((with_reducible refine gate_callee (f := 14) rfl ?_); refine goesL_ (some 25) rfl rfl Try.func14 (by kernel_rfl) rfl #[.agg #[.int .i64 a2_0, .int .i64 a2_1, .slice A2_2 l2_2.length c2_2], .int .i64 1] rfl yb ?_; (with_reducible refine (columbariumkeep_Tame.calls k a2_0 a2_1 _ _ l2_2 1 t462 t463 t464 _ ?side1 ?side2 A8.out).mono ?_); (case side1 => exact Kd.C_below HR2_2.out mZ); (case side2 => first | exact HC2_2.out | exact Kd.V_mono HC2_2.out (fun k_ hk_ => by grind)); rintro e w29 ⟨v465, rfl, ho0, hb⟩; refine ⟨_, rfl, ?_⟩; replace HO447 := zM (Kd.R_below (by (with_reducible repeat (first | apply Kd.R_alloc | apply Kd.R_drewN | apply Kd.R_drew)); exact (Kd.R_mono (zgR (Kd.R_types HO447.out BK438.out (by decide))) (fun _ h_ => h_.1))) hb); replace HO450 := zM (Kd.N_elder' (by (with_reducible repeat (first | apply Kd.N_alloc | apply Kd.N_drewN | apply Kd.N_drew)); exact (Kd.N_mono (zgN (Kd.N_mono HO450.out (fun k_ hk => (⟨hk, hk.1.1.2.2.1⟩ : _ ∧ k_ ≠ gb438)))) (fun _ h_ => h_.1))) (Kd.R_base ho0) hb); replace HO458 := zM (Kd.R_below (by (with_reducible repeat (first | apply Kd.R_alloc | apply Kd.R_drewN | apply Kd.R_drew)); exact (Kd.R_mono (zgR (Kd.R_types HO458.out BK438.out (by decide))) (fun _ h_ => h_.1))) hb); replace HO461 := zM (Kd.N_elder' (by (with_reducible repeat (first | apply Kd.N_alloc | apply Kd.N_drewN | apply Kd.N_drew)); exact (Kd.N_mono (zgN (Kd.N_mono HO461.out (fun k_ hk => (⟨hk, hk.2.2.2.2.1⟩ : _ ∧ k_ ≠ gb438)))) (fun _ h_ => h_.1))) (Kd.R_base ho0) hb); have HO466 := zM (Kd.R_lower ho0 (below_size mZ)); replace BK437 := zM (blk_below (zF BK437.out NB437_438.out) hb); replace BK438 := zP7 BK438 hb; replace BK439 := zM (blk_below (zF BK439.out NB439_438.out) hb); replace HB := zM (below_step mZ hb); (try clear hb); (try clear ho0)) | ((with_reducible refine gate_dst (N := 11) rfl ?_); refine box_event ?hg (N := 11) ?hd (cs := #[.int .i64 0, .int .i64 0, .slice none 0 0]) (t := 36) ?hr ?_; (case hd => rfl); (case hg => rfl); (case hr => first | (go_simp; done) | (go_simp; rfl)); intro gb467 hg w30 hbox hb; replace HO447 := zR HO447 hb; replace HO450 := zM (Kd.N_below (Kd.N_elderB (mN HO450.out) gb467 (Nat.le_of_eq hg.symm)) hb); replace HO458 := zR HO458 hb; replace HO461 := zM (Kd.N_below (Kd.N_elderB (mN HO461.out) gb467 (Nat.le_of_eq hg.symm)) hb); replace HO466 := zR HO466 hb; have BK467 := zM (hbox); have GW467 := zM ((by rw [hg]; exact (below_size mZ) : w.heap.size ≤ gb467)); replace HB := zM (below_step mZ hb); have GE467 := GW467; have NB437_467 := zL BK437 hg; have NB467_437 := zG BK437 hg; replace BK437 := zK BK437 hb; have NB438_467 := zL BK438 hg; have NB467_438 := zG BK438 hg; replace BK438 := zK BK438 hb; have NB439_467 := zL BK439 hg; have NB467_439 := zG BK439 hg; replace BK439 := zK BK439 hb; clear hb hbox hg; have hnb31 := NB467_437.out; have hnc31 := NB437_467.out; have hnb32 := NB467_438.out; have hnc32 := NB438_467.out; have hnb33 := NB467_439.out; have hnc33 := NB439_467.out; obtain ⟨hcz34_0, hcz34_1, hcz34_2, hfz34_0, hfz34_1, hfz34_2⟩ := cells_3 BK467.out; obtain ⟨Ao35, co35, eo35⟩ := Kd.R_slice HO466.out; subst eo35) | ((with_reducible refine gate_store (t := 36) (p := 11) rfl ?_); refine store_event (t := 36) (p := 11) (v := ?vo_w36) (w1 := (((w30.setCell ⟨gb467, 0, none⟩ (.int .i64 t462)).setCell ⟨gb467, 1, none⟩ (.int .i64 t463)).setCell ⟨gb467, 2, none⟩ (.slice Ao35 t464.length co35))) ?hg ?ho ?hn ?hr ?_; (case ho => rfl); (case hg => rfl); (case hn => rfl); (case hr => first | (go_simp; done) | (go_simp; rfl)); intro w36 hw; have n0_ : Aside0 (Kd.R Kd.string 9 w36 w.heap.size (fun k_ => nb k_ Ao26 t456.length co26) (.slice Ao20 t445.length co20) t445) := ⟨(by rw [hw]; exact (by (with_reducible repeat (first | apply Kd.R_alloc | apply Kd.R_drewN | apply Kd.R_drew)); exact Kd.R_mono (zgR (Kd.R_types HO447.out BK467.out (by decide))) (fun _ hk => hk.1.2)))⟩; have n1_ : Aside0 (Kd.N k25 25 w36 w.heap.size (fun k_ => nb k_ Ao20 t445.length co20 ∧ nb k_ Ao26 t456.length co26 ∧ nb k_ Ao27 t459.length co27 ∧ nb k_ Ao35 t464.length co35 ∧ k_ ≠ gb437 ∧ k_ ≠ gb438 ∧ k_ ≠ gb439 ∧ k_ ≠ gb467) (.slice Ao21 t448.length co21) t448) := ⟨(by rw [hw]; exact (by (with_reducible repeat (first | apply Kd.N_alloc | apply Kd.N_drewN | apply Kd.N_drew)); exact Kd.N_mono (zgN (Kd.N_mono HO450.out (fun k_ hk => (⟨hk, hk.2⟩ : _ ∧ k_ ≠ gb467)))) (fun _ hk => ⟨hk.1.1.1.1.1.1, ⟨hk.1.1.1.1.2, ⟨hk.1.1.1.2, ⟨hk.1.1.2, ⟨hk.1.1.1.1.1.2.1, ⟨hk.1.1.1.1.1.2.2.1, ⟨hk.1.1.1.1.1.2.2.2, hk.1.2⟩⟩⟩⟩⟩⟩⟩)))⟩; have n2_ : Aside0 (Kd.R Kd.string 9 w36 w.heap.size (fun k_ => nb k_ Ao20 t445.length co20) (.slice Ao26 t456.length co26) t456) := ⟨(by rw [hw]; exact (by (with_reducible repeat (first | apply Kd.R_alloc | apply Kd.R_drewN | apply Kd.R_drew)); exact Kd.R_mono (zgR (Kd.R_types HO458.out BK467.out (by decide))) (fun _ hk => hk.1.2)))⟩; have n3_ : Aside0 (Kd.N k25 25 w36 w.heap.size (fun k_ => nb k_ Ao20 t445.length co20 ∧ nb k_ Ao21 t448.length co21 ∧ nb k_ Ao26 t456.length co26 ∧ nb k_ Ao35 t464.length co35 ∧ k_ ≠ gb437 ∧ k_ ≠ gb438 ∧ k_ ≠ gb439 ∧ k_ ≠ gb467) (.slice Ao27 t459.length co27) t459) := ⟨(by rw [hw]; exact (by (with_reducible repeat (first | apply Kd.N_alloc | apply Kd.N_drewN | apply Kd.N_drew)); exact Kd.N_mono (zgN (Kd.N_mono HO461.out (fun k_ hk => (⟨hk, hk.2⟩ : _ ∧ k_ ≠ gb467)))) (fun _ hk => ⟨hk.1.1.1.2.1, ⟨hk.1.1.1.2.2.1, ⟨hk.1.1.1.1, ⟨hk.1.1.2, ⟨hk.1.1.1.2.2.2.1, ⟨hk.1.1.1.2.2.2.2.1, ⟨hk.1.1.1.2.2.2.2.2, hk.1.2⟩⟩⟩⟩⟩⟩⟩)))⟩; have n4_ : Aside0 (Kd.R k52 52 w36 w.heap.size (fun _ => True) (.slice Ao35 t464.length co35) t464) := ⟨(by rw [hw]; exact (by (with_reducible repeat (first | apply Kd.R_alloc | apply Kd.R_drewN | apply Kd.R_drew)); exact Kd.R_mono (zgR (Kd.R_types HO466.out BK467.out (by decide))) (fun _ hk => trivial)))⟩; have n5_ : Aside0 (w36.heap[gb437]? = some (.cells #[.int .i64 t440, .string t441, .int .i64 t442, .int .i64 t443, .string t444, .slice Ao20 t445.length co20, .slice Ao21 t448.length co21] 25 (0, 0))) := ⟨(by rw [hw]; exact (zF BK437.out NB437_467.out))⟩; have n6_ : Aside0 (w36.heap[gb438]? = some (.cells #[.int .i64 t451, .string t452, .int .i64 t453, .int .i64 t454, .string t455, .slice Ao26 t456.length co26, .slice Ao27 t459.length co27] 25 (0, 0))) := ⟨(by rw [hw]; exact (zF BK438.out NB438_467.out))⟩; have n7_ : Aside0 (w36.heap[gb439]? = some (.cells #[.int .i64 a2_0, .int .i64 a2_1, .slice A2_2 l2_2.length c2_2] 36 (0, 0))) := ⟨(by rw [hw]; exact (zF BK439.out NB439_467.out))⟩; have n8_ : Aside0 (w36.heap[gb467]? = some (.cells #[.int .i64 t462, .int .i64 t463, .slice Ao35 t464.length co35] 36 (0, 0))) := ⟨(by rw [hw]; exact (by (with_reducible repeat (first | refine blk_drewN ?_ _ | refine blk_drew ?_ | refine blk_alloc ?_ _)); apply puts_3; (with_reducible repeat (first | refine blk_drewN ?_ _ | refine blk_drew ?_ | refine blk_alloc ?_ _)); exact BK467.out))⟩; have n9_ : Aside0 (Below w.heap.size w w36) := ⟨(by rw [hw]; exact mZ)⟩; clear hw; clear HO447; clear HO450; clear HO458; clear HO461; clear HO466; clear BK437; clear BK438; clear BK439; clear BK467; clear HB; have HO447 := n0_; have HO450 := n1_; have HO458 := n2_; have HO461 := n3_; have HO466 := n4_; have BK437 := n5_; have BK438 := n6_; have BK439 := n7_; have BK467 := n8_; have HB := n9_; clear n0_ n1_ n2_ n3_ n4_ n5_ n6_ n7_ n8_ n9_; obtain ⟨hcz37_0, hcz37_1, hcz37_2, hcz37_3, hcz37_4, hcz37_5, hcz37_6, hfz37_0, hfz37_1, hfz37_2, hfz37_3, hfz37_4, hfz37_5, hfz37_6⟩ := cells_7 BK437.out; obtain ⟨hcz38_0, hcz38_1, hcz38_2, hcz38_3, hcz38_4, hcz38_5, hcz38_6, hfz38_0, hfz38_1, hfz38_2, hfz38_3, hfz38_4, hfz38_5, hfz38_6⟩ := cells_7 BK438.out) | ((with_reducible refine gate_dst (N := 28) rfl ?_); replace HO447 := zM (show Kd.V Kd.string 9 _ w.heap.size (fun k_ => nb k_ Ao26 t456.length co26 ∧ nb k_ Ao21 t448.length co21 ∧ nb k_ Ao27 t459.length co27 ∧ nb k_ Ao35 t464.length co35 ∧ k_ ≠ gb437 ∧ k_ ≠ gb438 ∧ k_ ≠ gb439 ∧ k_ ≠ gb467) (.slice Ao20 t445.length co20) t445 from Kd.V_mono (Kd.R_V ((Kd.R_apart' (Kd.R_apart' (Kd.R_apart' (Kd.R_types (Kd.R_types (Kd.R_types (Kd.R_types HO447.out BK437.out (by decide)) BK438.out (by decide)) BK439.out (by decide)) BK467.out (by decide)) (Kd.N_typed HO450.out) (by decide)) (Kd.N_typed HO461.out) (by decide)) (Kd.R_typed HO466.out) (by decide)))) (fun _ hk => ⟨hk.1.1.1.1.1.1.1, ⟨hk.1.1.2, ⟨hk.1.2, ⟨hk.2, ⟨hk.1.1.1.1.1.1.2, ⟨hk.1.1.1.1.1.2, ⟨hk.1.1.1.1.2, hk.1.1.1.2⟩⟩⟩⟩⟩⟩⟩)); replace HO450 := zM (show Kd.V k25 25 _ w.heap.size (fun k_ => nb k_ Ao20 t445.length co20 ∧ nb k_ Ao26 t456.length co26 ∧ nb k_ Ao27 t459.length co27 ∧ nb k_ Ao35 t464.length co35 ∧ k_ ≠ gb437 ∧ k_ ≠ gb438 ∧ k_ ≠ gb439 ∧ k_ ≠ gb467) (.slice Ao21 t448.length co21) t448 from Kd.N_V (HO450.out)); replace HO458 := zM (show Kd.V Kd.string 9 _ w.heap.size (fun k_ => nb k_ Ao20 t445.length co20 ∧ nb k_ Ao27 t459.length co27 ∧ nb k_ Ao35 t464.length co35 ∧ k_ ≠ gb437 ∧ k_ ≠ gb438 ∧ k_ ≠ gb439 ∧ k_ ≠ gb467) (.slice Ao26 t456.length co26) t456 from Kd.V_mono (Kd.R_V ((Kd.R_apart' (Kd.R_apart' (Kd.R_types (Kd.R_types (Kd.R_types (Kd.R_types HO458.out BK437.out (by decide)) BK438.out (by decide)) BK439.out (by decide)) BK467.out (by decide)) (Kd.N_typed HO461.out) (by decide)) (Kd.R_typed HO466.out) (by decide)))) (fun _ hk => ⟨hk.1.1.1.1.1.1, ⟨hk.1.2, ⟨hk.2, ⟨hk.1.1.1.1.1.2, ⟨hk.1.1.1.1.2, ⟨hk.1.1.1.2, hk.1.1.2⟩⟩⟩⟩⟩⟩)); replace HO461 := zM (show Kd.V k25 25 _ w.heap.size (fun k_ => nb k_ Ao20 t445.length co20 ∧ nb k_ Ao21 t448.length co21 ∧ nb k_ Ao26 t456.length co26 ∧ nb k_ Ao35 t464.length co35 ∧ k_ ≠ gb437 ∧ k_ ≠ gb438 ∧ k_ ≠ gb439 ∧ k_ ≠ gb467) (.slice Ao27 t459.length co27) t459 from Kd.N_V (HO461.out)); refine Kd.N_lit k25 _ 25 ?hg (N' := 28) ?hd (xs := ([(⟨t440, t441, t442, t443, t444, t445, t448⟩ : S25), (⟨t451, t452, t453, t454, t455, t456, t459⟩ : S25)] : List (S25))) (inner := [.int .i64 t440, .string t441, .int .i64 t442, .int .i64 t443, .string t444, .slice Ao20 t445.length co20, .slice Ao21 t448.length co21, .int .i64 t451, .string t452, .int .i64 t453, .int .i64 t454, .string t455, .slice Ao26 t456.length co26, .slice Ao27 t459.length co27]) (ok := (fun k_ => nb k_ Ao35 t464.length co35 ∧ k_ ≠ gb437 ∧ k_ ≠ gb438 ∧ k_ ≠ gb439 ∧ k_ ≠ gb467)) (okp := (fun k_ => nb k_ Ao35 t464.length co35 ∧ k_ ≠ gb437 ∧ k_ ≠ gb438 ∧ k_ ≠ gb439 ∧ k_ ≠ gb467)) ?hr ?hp (fun _ hk => hk) ⟨fR HO466 (Nat.le_refl _), fK BK437 (Nat.le_refl _), fK BK438 (Nat.le_refl _), fK BK439 (Nat.le_refl _), fK BK467 (Nat.le_refl _)⟩ (Below.refl _ _) (Nat.le_refl _) (by simp) ?_; (case hd => rfl); (case hg => rfl); (case hr => first | (go_simp; done) | (go_simp; rfl)); (case hp => exact (Reps.c7 (show Kd.FK k25 _ _ (⟨t440, t441, t442, t443, t444, t445, t448⟩ : S25) [.int .i64 t440, .string t441, .int .i64 t442, .int .i64 t443, .string t444, .slice Ao20 t445.length co20, .slice Ao21 t448.length co21] from (k25_mkF _ _ (⟨t440, t441, t442, t443, t444, t445, t448⟩ : S25) (Kd.V_reads' (Kd.V_mono (ok' := (fun k_ => nb k_ Ao35 t464.length co35 ∧ k_ ≠ gb437 ∧ k_ ≠ gb438 ∧ k_ ≠ gb439 ∧ k_ ≠ gb467)) (HO447.out) (fun k_ hk => ⟨hk.2.2.2.1, ⟨hk.2.2.2.2.1, ⟨hk.2.2.2.2.2.1, ⟨hk.2.2.2.2.2.2.1, hk.2.2.2.2.2.2.2⟩⟩⟩⟩))).2.1 (Kd.V_F (by (with_reducible repeat (first | apply Kd.V_alloc | apply Kd.V_drewN | apply Kd.V_drew)); exact (Kd.V_mono (ok' := (fun k_ => nb k_ Ao35 t464.length co35 ∧ k_ ≠ gb437 ∧ k_ ≠ gb438 ∧ k_ ≠ gb439 ∧ k_ ≠ gb467)) (HO447.out) (fun k_ hk => ⟨hk.2.2.2.1, ⟨hk.2.2.2.2.1, ⟨hk.2.2.2.2.2.1, ⟨hk.2.2.2.2.2.2.1, hk.2.2.2.2.2.2.2⟩⟩⟩⟩)))) (Kd.V_reads' (Kd.V_mono (ok' := (fun k_ => nb k_ Ao35 t464.length co35 ∧ k_ ≠ gb437 ∧ k_ ≠ gb438 ∧ k_ ≠ gb439 ∧ k_ ≠ gb467)) (HO450.out) (fun k_ hk => ⟨hk.2.2.2.1, ⟨hk.2.2.2.2.1, ⟨hk.2.2.2.2.2.1, ⟨hk.2.2.2.2.2.2.1, hk.2.2.2.2.2.2.2⟩⟩⟩⟩))).2.1 (Kd.V_F (by (with_reducible repeat (first | apply Kd.V_alloc | apply Kd.V_drewN | apply Kd.V_drew)); exact (Kd.V_mono (ok' := (fun k_ => nb k_ Ao35 t464.length co35 ∧ k_ ≠ gb437 ∧ k_ ≠ gb438 ∧ k_ ≠ gb439 ∧ k_ ≠ gb467)) (HO450.out) (fun k_ hk => ⟨hk.2.2.2.1, ⟨hk.2.2.2.2.1, ⟨hk.2.2.2.2.2.1, ⟨hk.2.2.2.2.2.2.1, hk.2.2.2.2.2.2.2⟩⟩⟩⟩)))))) (Reps.c7 (show Kd.FK k25 _ _ (⟨t451, t452, t453, t454, t455, t456, t459⟩ : S25) [.int .i64 t451, .string t452, .int .i64 t453, .int .i64 t454, .string t455, .slice Ao26 t456.length co26, .slice Ao27 t459.length co27] from (k25_mkF _ _ (⟨t451, t452, t453, t454, t455, t456, t459⟩ : S25) (Kd.V_reads' (Kd.V_mono (ok' := (fun k_ => nb k_ Ao35 t464.length co35 ∧ k_ ≠ gb437 ∧ k_ ≠ gb438 ∧ k_ ≠ gb439 ∧ k_ ≠ gb467)) (HO458.out) (fun k_ hk => ⟨hk.2.2.1, ⟨hk.2.2.2.1, ⟨hk.2.2.2.2.1, ⟨hk.2.2.2.2.2.1, hk.2.2.2.2.2.2⟩⟩⟩⟩))).2.1 (Kd.V_F (by (with_reducible repeat (first | apply Kd.V_alloc | apply Kd.V_drewN | apply Kd.V_drew)); exact (Kd.V_mono (ok' := (fun k_ => nb k_ Ao35 t464.length co35 ∧ k_ ≠ gb437 ∧ k_ ≠ gb438 ∧ k_ ≠ gb439 ∧ k_ ≠ gb467)) (HO458.out) (fun k_ hk => ⟨hk.2.2.1, ⟨hk.2.2.2.1, ⟨hk.2.2.2.2.1, ⟨hk.2.2.2.2.2.1, hk.2.2.2.2.2.2⟩⟩⟩⟩)))) (Kd.V_reads' (Kd.V_mono (ok' := (fun k_ => nb k_ Ao35 t464.length co35 ∧ k_ ≠ gb437 ∧ k_ ≠ gb438 ∧ k_ ≠ gb439 ∧ k_ ≠ gb467)) (HO461.out) (fun k_ hk => ⟨hk.2.2.2.1, ⟨hk.2.2.2.2.1, ⟨hk.2.2.2.2.2.1, ⟨hk.2.2.2.2.2.2.1, hk.2.2.2.2.2.2.2⟩⟩⟩⟩))).2.1 (Kd.V_F (by (with_reducible repeat (first | apply Kd.V_alloc | apply Kd.V_drewN | apply Kd.V_drew)); exact (Kd.V_mono (ok' := (fun k_ => nb k_ Ao35 t464.length co35 ∧ k_ ≠ gb437 ∧ k_ ≠ gb438 ∧ k_ ≠ gb439 ∧ k_ ≠ gb467)) (HO461.out) (fun k_ hk => ⟨hk.2.2.2.1, ⟨hk.2.2.2.2.1, ⟨hk.2.2.2.2.2.1, ⟨hk.2.2.2.2.2.2.1, hk.2.2.2.2.2.2.2⟩⟩⟩⟩)))))) (Reps.none _ _)))); intro v469 w39 ho40 hb hg_ hnew_; clear hg_ hnew_; (first | rw [← Ny468.out] at ho40 | (simp only [Int.reduceToNat] at ho40; rw [← Ny468.out] at ho40)); replace HO447 := zM (Kd.V_elder' (mV HO447.out) (by first | exact Kd.N_base ho40 | exact Kd.N_base (Kd.R_N ho40)) hb); replace HO450 := zM (Kd.V_elder' (mV HO450.out) (by first | exact Kd.N_base ho40 | exact Kd.N_base (Kd.R_N ho40)) hb); replace HO458 := zM (Kd.V_elder' (mV HO458.out) (by first | exact Kd.N_base ho40 | exact Kd.N_base (Kd.R_N ho40)) hb); replace HO461 := zM (Kd.V_elder' (mV HO461.out) (by first | exact Kd.N_base ho40 | exact Kd.N_base (Kd.R_N ho40)) hb); replace HO466 := zR HO466 hb; have HO470 := zM (Kd.N_lower ho40 (below_size mZ)); replace BK437 := zK BK437 hb; replace BK438 := zK BK438 hb; replace BK439 := zK BK439 hb; replace BK467 := zK BK467 hb; replace HB := zM (below_step mZ hb); clear hb ho40; obtain ⟨Ao41, co41, eo41⟩ := Kd.N_slice HO470.out; subst eo41) | ((with_reducible refine gate_dst (N := 12) rfl ?_); refine box_event ?hg (N := 12) ?hd (cs := #[.int .i64 0, .string (⟨#[]⟩ : ByteArray), .int .i64 0, .int .i64 0, .string (⟨#[]⟩ : ByteArray), .slice none 0 0, .slice none 0 0]) (t := 25) ?hr ?_; (case hd => rfl); (case hg => rfl); (case hr => first | (go_simp; done) | (go_simp; rfl)); intro gb471 hg w42 hbox hb; replace HO447 := zM (Kd.V_below (Kd.V_elderB (mV HO447.out) gb471 (Nat.le_of_eq hg.symm)) hb); replace HO450 := zM (Kd.V_below (Kd.V_elderB (mV HO450.out) gb471 (Nat.le_of_eq hg.symm)) hb); replace HO458 := zM (Kd.V_below (Kd.V_elderB (mV HO458.out) gb471 (Nat.le_of_eq hg.symm)) hb); replace HO461 := zM (Kd.V_below (Kd.V_elderB (mV HO461.out) gb471 (Nat.le_of_eq hg.symm)) hb); replace HO466 := zR HO466 hb; replace HO470 := zM (Kd.N_below (Kd.N_elderB (mN HO470.out) gb471 (Nat.le_of_eq hg.symm)) hb); have BK471 := zM (hbox); have GW471 := zM ((by rw [hg]; exact (below_size mZ) : w.heap.size ≤ gb471)); replace HB := zM (below_step mZ hb); have GE471 := GW471; have NB437_471 := zL BK437 hg; have NB471_437 := zG BK437 hg; replace BK437 := zK BK437 hb; have NB438_471 := zL BK438 hg; have NB471_438 := zG BK438 hg; replace BK438 := zK BK438 hb; have NB439_471 := zL BK439 hg; have NB471_439 := zG BK439 hg; replace BK439 := zK BK439 hb; have NB467_471 := zL BK467 hg; have NB471_467 := zG BK467 hg; replace BK467 := zK BK467 hb; clear hb hbox hg; have hnb43 := NB471_437.out; have hnc43 := NB437_471.out; have hnb44 := NB471_438.out; have hnc44 := NB438_471.out; have hnb45 := NB471_439.out; have hnc45 := NB439_471.out; have hnb46 := NB471_467.out; have hnc46 := NB467_471.out; obtain ⟨hcz47_0, hcz47_1, hcz47_2, hcz47_3, hcz47_4, hcz47_5, hcz47_6, hfz47_0, hfz47_1, hfz47_2, hfz47_3, hfz47_4, hfz47_5, hfz47_6⟩ := cells_7 BK471.out))
 generalize hq_ : (((((((w42.setCell ⟨gb471, 0, none⟩ (.int .i64 1)).setCell ⟨gb471, 1, none⟩ (.string (⟨#[]⟩ : ByteArray))).setCell ⟨gb471, 2, none⟩ (.int .i64 0)).setCell ⟨gb471, 3, none⟩ (.int .i64 0)).setCell ⟨gb471, 4, none⟩ (.string (⟨#[]⟩ : ByteArray))).setCell ⟨gb471, 5, none⟩ (.slice none 0 0)).setCell ⟨gb471, 6, none⟩ (.slice Ao41 y468.length co41)) = w48
 replace HO447 := zqV7 (ok' := fun k_ => nb k_ Ao21 t448.length co21 ∧ nb k_ Ao26 t456.length co26 ∧ nb k_ Ao27 t459.length co27 ∧ nb k_ Ao35 t464.length co35 ∧ nb k_ Ao41 y468.length co41 ∧ k_ ≠ gb437 ∧ k_ ≠ gb438 ∧ k_ ≠ gb439 ∧ k_ ≠ gb467 ∧ k_ ≠ gb471) hq_ HO447 (fun _ hk => hk.2) (fun _ hk => ⟨hk.1.1.1.2.1, ⟨hk.1.1.1.1, ⟨hk.1.1.1.2.2.1, ⟨hk.1.1.1.2.2.2.1, ⟨hk.1.1.2, ⟨hk.1.1.1.2.2.2.2.1, ⟨hk.1.1.1.2.2.2.2.2.1, ⟨hk.1.1.1.2.2.2.2.2.2.1, ⟨hk.1.1.1.2.2.2.2.2.2.2, hk.1.2⟩⟩⟩⟩⟩⟩⟩⟩⟩)
 replace HO450 := zqV7 (ok' := fun k_ => nb k_ Ao20 t445.length co20 ∧ nb k_ Ao26 t456.length co26 ∧ nb k_ Ao27 t459.length co27 ∧ nb k_ Ao35 t464.length co35 ∧ nb k_ Ao41 y468.length co41 ∧ k_ ≠ gb437 ∧ k_ ≠ gb438 ∧ k_ ≠ gb439 ∧ k_ ≠ gb467 ∧ k_ ≠ gb471) hq_ HO450 (fun _ hk => hk.2) (fun _ hk => ⟨hk.1.1.1.1, ⟨hk.1.1.1.2.1, ⟨hk.1.1.1.2.2.1, ⟨hk.1.1.1.2.2.2.1, ⟨hk.1.1.2, ⟨hk.1.1.1.2.2.2.2.1, ⟨hk.1.1.1.2.2.2.2.2.1, ⟨hk.1.1.1.2.2.2.2.2.2.1, ⟨hk.1.1.1.2.2.2.2.2.2.2, hk.1.2⟩⟩⟩⟩⟩⟩⟩⟩⟩)
 replace HO458 := zqV7 (ok' := fun k_ => nb k_ Ao20 t445.length co20 ∧ nb k_ Ao27 t459.length co27 ∧ nb k_ Ao35 t464.length co35 ∧ nb k_ Ao41 y468.length co41 ∧ k_ ≠ gb437 ∧ k_ ≠ gb438 ∧ k_ ≠ gb439 ∧ k_ ≠ gb467 ∧ k_ ≠ gb471) hq_ HO458 (fun _ hk => hk.2) (fun _ hk => ⟨hk.1.1.1.1, ⟨hk.1.1.1.2.1, ⟨hk.1.1.1.2.2.1, ⟨hk.1.1.2, ⟨hk.1.1.1.2.2.2.1, ⟨hk.1.1.1.2.2.2.2.1, ⟨hk.1.1.1.2.2.2.2.2.1, ⟨hk.1.1.1.2.2.2.2.2.2, hk.1.2⟩⟩⟩⟩⟩⟩⟩⟩)
 replace HO461 := zqV7 (ok' := fun k_ => nb k_ Ao20 t445.length co20 ∧ nb k_ Ao21 t448.length co21 ∧ nb k_ Ao26 t456.length co26 ∧ nb k_ Ao35 t464.length co35 ∧ nb k_ Ao41 y468.length co41 ∧ k_ ≠ gb437 ∧ k_ ≠ gb438 ∧ k_ ≠ gb439 ∧ k_ ≠ gb467 ∧ k_ ≠ gb471) hq_ HO461 (fun _ hk => hk.2) (fun _ hk => ⟨hk.1.1.1.1, ⟨hk.1.1.1.2.1, ⟨hk.1.1.1.2.2.1, ⟨hk.1.1.1.2.2.2.1, ⟨hk.1.1.2, ⟨hk.1.1.1.2.2.2.2.1, ⟨hk.1.1.1.2.2.2.2.2.1, ⟨hk.1.1.1.2.2.2.2.2.2.1, ⟨hk.1.1.1.2.2.2.2.2.2.2, hk.1.2⟩⟩⟩⟩⟩⟩⟩⟩⟩)
 replace HO466 : Aside0 (Kd.R k52 52 w48 w.heap.size (fun _ => True) (.slice Ao35 t464.length co35) t464) := ⟨by subst hq_; (with_reducible repeat (first | apply Kd.R_alloc | apply Kd.R_drewN | apply Kd.R_drew)); exact Kd.R_mono (zgR (Kd.R_types HO466.out BK471.out (by decide))) (fun _ hk => trivial)⟩
 replace HO470 := zqN7 (ok' := fun k_ => nb k_ Ao35 t464.length co35 ∧ k_ ≠ gb437 ∧ k_ ≠ gb438 ∧ k_ ≠ gb439 ∧ k_ ≠ gb467 ∧ k_ ≠ gb471) hq_ HO470 (fun _ hk => hk.2) (fun _ hk => ⟨hk.1.1.1, ⟨hk.1.1.2.1, ⟨hk.1.1.2.2.1, ⟨hk.1.1.2.2.2.1, ⟨hk.1.1.2.2.2.2, hk.1.2⟩⟩⟩⟩⟩)
 replace BK437 := zf7 hq_ BK437 NB437_471
 replace BK438 := zf7 hq_ BK438 NB438_471
 replace BK439 := zf7 hq_ BK439 NB439_471
 replace BK467 := zf7 hq_ BK467 NB467_471
 replace BK471 := zp7 hq_ BK471
 replace HB : Aside0 (Below w.heap.size w w48) := ⟨by subst hq_; exact mZ⟩
 clear hq_
 replace HO447 := zM (Kd.V_drew HO447.out)
 replace HO450 := zM (Kd.V_drew HO450.out)
 replace HO458 := zM (Kd.V_drew HO458.out)
 replace HO461 := zM (Kd.V_drew HO461.out)
 replace HO466 := zM (Kd.R_drew HO466.out)
 replace HO470 := zM (Kd.N_drew HO470.out)
 replace BK437 := zM (blk_drew BK437.out)
 replace BK438 := zM (blk_drew BK438.out)
 replace BK439 := zM (blk_drew BK439.out)
 replace BK467 := zM (blk_drew BK467.out)
 replace BK471 := zM (blk_drew BK471.out)
 replace HB := zM (below_drew1 HB.out)
 refine start_ (n := 8) (S := fun w' => w'.cell? ⟨gb437, 0, none⟩ = some (.int .i64 t440) ∧ w'.cell? ⟨gb437, 1, none⟩ = some (.string t441) ∧ w'.cell? ⟨gb437, 2, none⟩ = some (.int .i64 t442) ∧ w'.cell? ⟨gb437, 3, none⟩ = some (.int .i64 t443) ∧ w'.cell? ⟨gb437, 4, none⟩ = some (.string t444) ∧ w'.cell? ⟨gb437, 5, none⟩ = some (.slice Ao20 t445.length co20) ∧ w'.cell? ⟨gb437, 6, none⟩ = some (.slice Ao21 t448.length co21) ∧ w'.cell? ⟨gb438, 0, none⟩ = some (.int .i64 t451) ∧ w'.cell? ⟨gb438, 1, none⟩ = some (.string t452) ∧ w'.cell? ⟨gb438, 2, none⟩ = some (.int .i64 t453) ∧ w'.cell? ⟨gb438, 3, none⟩ = some (.int .i64 t454) ∧ w'.cell? ⟨gb438, 4, none⟩ = some (.string t455) ∧ w'.cell? ⟨gb438, 5, none⟩ = some (.slice Ao26 t456.length co26) ∧ w'.cell? ⟨gb438, 6, none⟩ = some (.slice Ao27 t459.length co27)) (ds := []) #[false, false, false, false, false, false, false, false] (by kernel_rfl) rfl rfl (zI7 BK437 (zJ7 BK438)) (fun hHeld => ?_); refine with_tabW columbariumlaw13_PredPairs.tab5 columbariumlaw13_PredPairs.bits5 (fun HT_ HW_ => ?_)
 generalize w48.drew = w49 at HO447 HO450 HO458 HO461 HO466 HO470 BK437 BK438 BK439 BK467 BK471 HB hHeld ⊢
 refine take_ (i := 0) (N := some 30) (v := ?_) (a' := ?_) #[true, false, false, false, false, false, false, false] rfl rfl (take_ofW HT_.out HW_.out (by kernel_rfl)) (fun _ _ _ h => h) (Or.inl ⟨by rfl, ?_⟩) hHeld ?_ ?_
 rotate_left
 ·rintro w' ⟨s0, s1, s2, s3, s4, s5, s6, s7, s8, s9, s10, s11, s12, s13⟩
  go_simp
  with_reducible rfl
 rotate_left
 ·simp only [Act.put, List.setIfInBounds_toArray, List.set_cons_zero, List.set_cons_succ, i64_w, i32_w]
  rfl
 refine take_ (i := 2) (N := some 32) (v := ?_) (a' := ?_) #[true, false, true, false, false, false, false, false] rfl rfl (take_ofW HT_.out HW_.out (by kernel_rfl)) (fun _ _ _ h => h) (Or.inl ⟨by rfl, ?_⟩) hHeld ?_ ?_
 rotate_left
 ·rintro w' ⟨s0, s1, s2, s3, s4, s5, s6, s7, s8, s9, s10, s11, s12, s13⟩
  go_simp
  with_reducible rfl
 rotate_left
 ·simp only [Act.put, List.setIfInBounds_toArray, List.set_cons_zero, List.set_cons_succ, i64_w, i32_w]
  rfl
 refine join_ (σ := Value × Value × Value × Value × Value × Nat) 1 #[true, true, true, true, true, true, true, false] (fun s_ => [(31, .agg #[.int .i64 t472, .string t473, .int .i64 t474, .int .i64 t475, .string t476, s_.1, s_.2.1]), (33, .agg #[.int .i64 t483, .string t484, .int .i64 t485, .int .i64 t486, .string t487, s_.2.2.1, s_.2.2.2.1]), (34, s_.2.2.2.2.1), (13, .pointer (some ⟨s_.2.2.2.2.2, 0, none⟩)), (35, .agg #[.int .i64 2, .string (⟨#[]⟩ : ByteArray), .int .i64 0, .int .i64 0, .string (⟨#[]⟩ : ByteArray), .slice none 0 0, s_.2.2.2.2.1])]) (fun s_ w' => (w'.cell? ⟨gb437, 0, none⟩ = some (.int .i64 t440) ∧ w'.cell? ⟨gb437, 1, none⟩ = some (.string t441) ∧ w'.cell? ⟨gb437, 2, none⟩ = some (.int .i64 t442) ∧ w'.cell? ⟨gb437, 3, none⟩ = some (.int .i64 t443) ∧ w'.cell? ⟨gb437, 4, none⟩ = some (.string t444) ∧ w'.cell? ⟨gb437, 5, none⟩ = some (.slice Ao20 t445.length co20) ∧ w'.cell? ⟨gb437, 6, none⟩ = some (.slice Ao21 t448.length co21) ∧ w'.cell? ⟨gb438, 0, none⟩ = some (.int .i64 t451) ∧ w'.cell? ⟨gb438, 1, none⟩ = some (.string t452) ∧ w'.cell? ⟨gb438, 2, none⟩ = some (.int .i64 t453) ∧ w'.cell? ⟨gb438, 3, none⟩ = some (.int .i64 t454) ∧ w'.cell? ⟨gb438, 4, none⟩ = some (.string t455) ∧ w'.cell? ⟨gb438, 5, none⟩ = some (.slice Ao26 t456.length co26) ∧ w'.cell? ⟨gb438, 6, none⟩ = some (.slice Ao27 t459.length co27)) ∧ (Kd.V Kd.string 9 w' w.heap.size (fun k_ => nb k_ Ao21 t448.length co21 ∧ nb k_ Ao26 t456.length co26 ∧ nb k_ Ao27 t459.length co27 ∧ nb k_ Ao35 t464.length co35 ∧ nb k_ Ao41 y468.length co41 ∧ some k_ ≠ (s_.2.2.2.2.1 : Value).ownBlock ∧ k_ ≠ gb437 ∧ k_ ≠ gb438 ∧ k_ ≠ gb439 ∧ k_ ≠ gb467 ∧ k_ ≠ gb471 ∧ k_ ≠ s_.2.2.2.2.2) (.slice Ao20 t445.length co20) t445) ∧ (Kd.V k25 25 w' w.heap.size (fun k_ => nb k_ Ao20 t445.length co20 ∧ nb k_ Ao26 t456.length co26 ∧ nb k_ Ao27 t459.length co27 ∧ nb k_ Ao35 t464.length co35 ∧ nb k_ Ao41 y468.length co41 ∧ some k_ ≠ (s_.2.2.2.2.1 : Value).ownBlock ∧ k_ ≠ gb437 ∧ k_ ≠ gb438 ∧ k_ ≠ gb439 ∧ k_ ≠ gb467 ∧ k_ ≠ gb471 ∧ k_ ≠ s_.2.2.2.2.2) (.slice Ao21 t448.length co21) t448) ∧ (Kd.V Kd.string 9 w' w.heap.size (fun k_ => nb k_ Ao20 t445.length co20 ∧ nb k_ Ao27 t459.length co27 ∧ nb k_ Ao35 t464.length co35 ∧ nb k_ Ao41 y468.length co41 ∧ some k_ ≠ (s_.2.2.2.2.1 : Value).ownBlock ∧ k_ ≠ gb437 ∧ k_ ≠ gb438 ∧ k_ ≠ gb439 ∧ k_ ≠ gb467 ∧ k_ ≠ gb471 ∧ k_ ≠ s_.2.2.2.2.2) (.slice Ao26 t456.length co26) t456) ∧ (Kd.V k25 25 w' w.heap.size (fun k_ => nb k_ Ao20 t445.length co20 ∧ nb k_ Ao21 t448.length co21 ∧ nb k_ Ao26 t456.length co26 ∧ nb k_ Ao35 t464.length co35 ∧ nb k_ Ao41 y468.length co41 ∧ some k_ ≠ (s_.2.2.2.2.1 : Value).ownBlock ∧ k_ ≠ gb437 ∧ k_ ≠ gb438 ∧ k_ ≠ gb439 ∧ k_ ≠ gb467 ∧ k_ ≠ gb471 ∧ k_ ≠ s_.2.2.2.2.2) (.slice Ao27 t459.length co27) t459) ∧ (Kd.R k52 52 w' w.heap.size (fun _ => True) (.slice Ao35 t464.length co35) t464) ∧ (Kd.N k25 25 w' w.heap.size (fun k_ => nb k_ Ao35 t464.length co35 ∧ some k_ ≠ (s_.2.2.2.2.1 : Value).ownBlock ∧ k_ ≠ gb437 ∧ k_ ≠ gb438 ∧ k_ ≠ gb439 ∧ k_ ≠ gb467 ∧ k_ ≠ gb471 ∧ k_ ≠ s_.2.2.2.2.2) (.slice Ao41 y468.length co41) y468) ∧ (Kd.V Kd.string 9 w' w.heap.size (fun k_ => nb k_ Ao35 t464.length co35 ∧ nb k_ Ao41 y468.length co41 ∧ some k_ ≠ (s_.2.2.2.2.1 : Value).ownBlock ∧ k_ ≠ gb437 ∧ k_ ≠ gb438 ∧ k_ ≠ gb439 ∧ k_ ≠ gb467 ∧ k_ ≠ gb471 ∧ k_ ≠ s_.2.2.2.2.2) s_.1 t477) ∧ (Kd.V k25 25 w' w.heap.size (fun k_ => nb k_ Ao35 t464.length co35 ∧ nb k_ Ao41 y468.length co41 ∧ some k_ ≠ (s_.2.2.2.2.1 : Value).ownBlock ∧ k_ ≠ gb437 ∧ k_ ≠ gb438 ∧ k_ ≠ gb439 ∧ k_ ≠ gb467 ∧ k_ ≠ gb471 ∧ k_ ≠ s_.2.2.2.2.2) s_.2.1 t480) ∧ (Kd.V Kd.string 9 w' w.heap.size (fun k_ => nb k_ Ao35 t464.length co35 ∧ nb k_ Ao41 y468.length co41 ∧ some k_ ≠ (s_.2.2.2.2.1 : Value).ownBlock ∧ k_ ≠ gb437 ∧ k_ ≠ gb438 ∧ k_ ≠ gb439 ∧ k_ ≠ gb467 ∧ k_ ≠ gb471 ∧ k_ ≠ s_.2.2.2.2.2) s_.2.2.1 t488) ∧ (Kd.V k25 25 w' w.heap.size (fun k_ => nb k_ Ao35 t464.length co35 ∧ nb k_ Ao41 y468.length co41 ∧ some k_ ≠ (s_.2.2.2.2.1 : Value).ownBlock ∧ k_ ≠ gb437 ∧ k_ ≠ gb438 ∧ k_ ≠ gb439 ∧ k_ ≠ gb467 ∧ k_ ≠ gb471 ∧ k_ ≠ s_.2.2.2.2.2) s_.2.2.2.1 t491) ∧ (Kd.N k25 25 w' w.heap.size (fun k_ => nb k_ Ao35 t464.length co35 ∧ nb k_ Ao41 y468.length co41 ∧ k_ ≠ gb437 ∧ k_ ≠ gb438 ∧ k_ ≠ gb439 ∧ k_ ≠ gb467 ∧ k_ ≠ gb471 ∧ k_ ≠ s_.2.2.2.2.2) s_.2.2.2.2.1 y494) ∧ (w'.heap[gb437]? = some (.cells #[.int .i64 t440, .string t441, .int .i64 t442, .int .i64 t443, .string t444, .slice Ao20 t445.length co20, .slice Ao21 t448.length co21] 25 (0, 0))) ∧ (w'.heap[gb438]? = some (.cells #[.int .i64 t451, .string t452, .int .i64 t453, .int .i64 t454, .string t455, .slice Ao26 t456.length co26, .slice Ao27 t459.length co27] 25 (0, 0))) ∧ (w'.heap[gb439]? = some (.cells #[.int .i64 a2_0, .int .i64 a2_1, .slice A2_2 l2_2.length c2_2] 36 (0, 0))) ∧ (w'.heap[gb467]? = some (.cells #[.int .i64 t462, .int .i64 t463, .slice Ao35 t464.length co35] 36 (0, 0))) ∧ (w'.heap[gb471]? = some (.cells #[.int .i64 1, .string (⟨#[]⟩ : ByteArray), .int .i64 0, .int .i64 0, .string (⟨#[]⟩ : ByteArray), .slice none 0 0, .slice Ao41 y468.length co41] 25 (0, 0))) ∧ (w'.heap[s_.2.2.2.2.2]? = some (.cells #[.int .i64 0, .string (⟨#[]⟩ : ByteArray), .int .i64 0, .int .i64 0, .string (⟨#[]⟩ : ByteArray), .slice none 0 0, .slice none 0 0] 25 (0, 0))) ∧ (w.heap.size ≤ s_.2.2.2.2.2) ∧ (w.heap.size ≤ s_.2.2.2.2.2) ∧ (gb437 ≠ s_.2.2.2.2.2) ∧ (s_.2.2.2.2.2 ≠ gb437) ∧ (gb438 ≠ s_.2.2.2.2.2) ∧ (s_.2.2.2.2.2 ≠ gb438) ∧ (gb439 ≠ s_.2.2.2.2.2) ∧ (s_.2.2.2.2.2 ≠ gb439) ∧ (gb467 ≠ s_.2.2.2.2.2) ∧ (s_.2.2.2.2.2 ≠ gb467) ∧ (gb471 ≠ s_.2.2.2.2.2) ∧ (s_.2.2.2.2.2 ≠ gb471) ∧ (Below w.heap.size w w')) ?_ ?_
 rotate_left
 ·intro hCont
  refine two_ (i := 1) (j := 6) (Ni := some 31) (Nj := some 13) #[true, true, true, false, false, false, false, false] #[true, false, true, false, false, false, true, false] rfl rfl rfl rfl (two_of HT_.out (by kernel_rfl)) (by decide) (by decide) (fun K hK => ?_) (fun K hK => ?_)
  ·skip
   refine goes_ Try.func16 (by kernel_rfl) rfl #[.agg #[.int .i64 t440, .string t441, .int .i64 t442, .int .i64 t443, .string t444, .slice Ao20 t445.length co20, .slice Ao21 t448.length co21], .int .i64 1] (by rfl) rfl rfl yb ?_
   with_reducible refine (columbariumlaw13_nots.calls k t440 t441 t442 t443 t444 (fun k_ => (nb k_ Ao21 t448.length co21 ∧ (nb k_ Ao26 t456.length co26 ∧ (nb k_ Ao27 t459.length co27 ∧ (nb k_ Ao35 t464.length co35 ∧ (nb k_ Ao41 y468.length co41 ∧ (k_ ≠ gb437 ∧ (k_ ≠ gb438 ∧ (k_ ≠ gb439 ∧ (k_ ≠ gb467 ∧ k_ ≠ gb471)))))))))) _ _ t445 (fun k_ => (nb k_ Ao20 t445.length co20 ∧ (nb k_ Ao26 t456.length co26 ∧ (nb k_ Ao27 t459.length co27 ∧ (nb k_ Ao35 t464.length co35 ∧ (nb k_ Ao41 y468.length co41 ∧ (k_ ≠ gb437 ∧ (k_ ≠ gb438 ∧ (k_ ≠ gb439 ∧ (k_ ≠ gb467 ∧ k_ ≠ gb471)))))))))) _ _ t448 1 t472 t473 t474 t475 t476 t477 t480 _ ?side1 ?side2 A9.out).mono ?_
   (case side1 => first | exact HO447.out | exact Kd.V_mono HO447.out (fun k_ hk_ => by grind))
   (case side2 => first | exact HO450.out | exact Kd.V_mono HO450.out (fun k_ hk_ => by grind))
   rintro e w50 ⟨v478, v481, rfl, ho0, ho1, hb⟩
   refine ⟨_, rfl, ?_⟩
   replace HO447 := zV HO447 hb
   replace HO450 := zV HO450 hb
   replace HO458 := zV HO458 hb
   replace HO461 := zV HO461 hb
   have HO479 := zM (Kd.V_lower (Kd.V_mono (ok' := fun k_ => nb k_ Ao35 t464.length co35 ∧ nb k_ Ao41 y468.length co41 ∧ k_ ≠ gb437 ∧ k_ ≠ gb438 ∧ k_ ≠ gb439 ∧ k_ ≠ gb467 ∧ k_ ≠ gb471) ho0 (fun k_ hk_ => Or.elim hk_ (fun hs_ => Or.elim hs_ (fun hs_ => ⟨hs_.2.2.2.1, hs_.2.2.2.2.1, hs_.2.2.2.2.2.1, hs_.2.2.2.2.2.2.1, hs_.2.2.2.2.2.2.2.1, hs_.2.2.2.2.2.2.2.2.1, hs_.2.2.2.2.2.2.2.2.2⟩) (fun hs_ => ⟨hs_.2.2.2.1, hs_.2.2.2.2.1, hs_.2.2.2.2.2.1, hs_.2.2.2.2.2.2.1, hs_.2.2.2.2.2.2.2.1, hs_.2.2.2.2.2.2.2.2.1, hs_.2.2.2.2.2.2.2.2.2⟩)) (fun hn_ => ⟨(fR HO466 hn_), (fN HO470 hn_), (fK BK437 hn_), (fK BK438 hn_), (fK BK439 hn_), (fK BK467 hn_), (fK BK471 hn_)⟩))) (below_size mZ))
   have HO482 := zM (Kd.V_lower (Kd.V_mono (ok' := fun k_ => nb k_ Ao35 t464.length co35 ∧ nb k_ Ao41 y468.length co41 ∧ k_ ≠ gb437 ∧ k_ ≠ gb438 ∧ k_ ≠ gb439 ∧ k_ ≠ gb467 ∧ k_ ≠ gb471) ho1 (fun k_ hk_ => Or.elim hk_ (fun hs_ => Or.elim hs_ (fun hs_ => ⟨hs_.2.2.2.1, hs_.2.2.2.2.1, hs_.2.2.2.2.2.1, hs_.2.2.2.2.2.2.1, hs_.2.2.2.2.2.2.2.1, hs_.2.2.2.2.2.2.2.2.1, hs_.2.2.2.2.2.2.2.2.2⟩) (fun hs_ => ⟨hs_.2.2.2.1, hs_.2.2.2.2.1, hs_.2.2.2.2.2.1, hs_.2.2.2.2.2.2.1, hs_.2.2.2.2.2.2.2.1, hs_.2.2.2.2.2.2.2.2.1, hs_.2.2.2.2.2.2.2.2.2⟩)) (fun hn_ => ⟨(fR HO466 hn_), (fN HO470 hn_), (fK BK437 hn_), (fK BK438 hn_), (fK BK439 hn_), (fK BK467 hn_), (fK BK471 hn_)⟩))) (below_size mZ))
   replace HO466 := zR HO466 hb
   replace HO470 := zN HO470 hb
   replace BK437 := zK BK437 hb
   replace BK438 := zK BK438 hb
   replace BK439 := zK BK439 hb
   replace BK467 := zK BK467 hb
   replace BK471 := zK BK471 hb
   replace HB := zM (below_step mZ hb)
   (try clear hb)
   (try clear hb2)
   (try clear hk)
   (try clear hi)
   (try clear ho0)
   (try clear ho1)
   refine hK.out _ _ (zI7 BK437 (zJ7 BK438)) (fun hHeld => ?_)
   clear hK K
   refine norm_ (a' := ?_) ?_ ?_
   rotate_left
   ·show Act.put _ (some 31) _ = _
    simp only [Act.put, List.setIfInBounds_toArray, List.set_cons_zero, List.set_cons_succ, i64_w, i32_w]
    rfl
   refine two_ (i := 3) (j := 6) (Ni := some 33) (Nj := some 13) #[true, true, true, true, false, false, false, false] #[true, true, true, false, false, false, true, false] rfl rfl rfl rfl (two_of HT_.out (by kernel_rfl)) (by decide) (by decide) (fun K hK => ?_) (fun K hK => ?_)
   ·skip
    refine goes_ Try.func16 (by kernel_rfl) rfl #[.agg #[.int .i64 t451, .string t452, .int .i64 t453, .int .i64 t454, .string t455, .slice Ao26 t456.length co26, .slice Ao27 t459.length co27], .int .i64 1] (by rfl) rfl rfl yb ?_
    with_reducible refine (columbariumlaw13_nots.calls k t451 t452 t453 t454 t455 (fun k_ => (nb k_ Ao20 t445.length co20 ∧ (nb k_ Ao27 t459.length co27 ∧ (nb k_ Ao35 t464.length co35 ∧ (nb k_ Ao41 y468.length co41 ∧ (k_ ≠ gb437 ∧ (k_ ≠ gb438 ∧ (k_ ≠ gb439 ∧ (k_ ≠ gb467 ∧ k_ ≠ gb471))))))))) _ _ t456 (fun k_ => (nb k_ Ao20 t445.length co20 ∧ (nb k_ Ao21 t448.length co21 ∧ (nb k_ Ao26 t456.length co26 ∧ (nb k_ Ao35 t464.length co35 ∧ (nb k_ Ao41 y468.length co41 ∧ (k_ ≠ gb437 ∧ (k_ ≠ gb438 ∧ (k_ ≠ gb439 ∧ (k_ ≠ gb467 ∧ k_ ≠ gb471)))))))))) _ _ t459 1 t483 t484 t485 t486 t487 t488 t491 _ ?side1 ?side2 A10.out).mono ?_
    (case side1 => first | exact HO458.out | exact Kd.V_mono HO458.out (fun k_ hk_ => by grind))
    (case side2 => first | exact HO461.out | exact Kd.V_mono HO461.out (fun k_ hk_ => by grind))
    rintro e w51 ⟨v489, v492, rfl, ho0, ho1, hb⟩
    refine ⟨_, rfl, ?_⟩
    replace HO447 := zV HO447 hb
    replace HO450 := zV HO450 hb
    replace HO458 := zV HO458 hb
    replace HO461 := zV HO461 hb
    replace HO479 := zV HO479 hb
    replace HO482 := zV HO482 hb
    have HO490 := zM (Kd.V_lower (Kd.V_mono (ok' := fun k_ => nb k_ Ao35 t464.length co35 ∧ nb k_ Ao41 y468.length co41 ∧ k_ ≠ gb437 ∧ k_ ≠ gb438 ∧ k_ ≠ gb439 ∧ k_ ≠ gb467 ∧ k_ ≠ gb471) ho0 (fun k_ hk_ => Or.elim hk_ (fun hs_ => Or.elim hs_ (fun hs_ => ⟨hs_.2.2.1, hs_.2.2.2.1, hs_.2.2.2.2.1, hs_.2.2.2.2.2.1, hs_.2.2.2.2.2.2.1, hs_.2.2.2.2.2.2.2.1, hs_.2.2.2.2.2.2.2.2⟩) (fun hs_ => ⟨hs_.2.2.2.1, hs_.2.2.2.2.1, hs_.2.2.2.2.2.1, hs_.2.2.2.2.2.2.1, hs_.2.2.2.2.2.2.2.1, hs_.2.2.2.2.2.2.2.2.1, hs_.2.2.2.2.2.2.2.2.2⟩)) (fun hn_ => ⟨(fR HO466 hn_), (fN HO470 hn_), (fK BK437 hn_), (fK BK438 hn_), (fK BK439 hn_), (fK BK467 hn_), (fK BK471 hn_)⟩))) (below_size mZ))
    have HO493 := zM (Kd.V_lower (Kd.V_mono (ok' := fun k_ => nb k_ Ao35 t464.length co35 ∧ nb k_ Ao41 y468.length co41 ∧ k_ ≠ gb437 ∧ k_ ≠ gb438 ∧ k_ ≠ gb439 ∧ k_ ≠ gb467 ∧ k_ ≠ gb471) ho1 (fun k_ hk_ => Or.elim hk_ (fun hs_ => Or.elim hs_ (fun hs_ => ⟨hs_.2.2.1, hs_.2.2.2.1, hs_.2.2.2.2.1, hs_.2.2.2.2.2.1, hs_.2.2.2.2.2.2.1, hs_.2.2.2.2.2.2.2.1, hs_.2.2.2.2.2.2.2.2⟩) (fun hs_ => ⟨hs_.2.2.2.1, hs_.2.2.2.2.1, hs_.2.2.2.2.2.1, hs_.2.2.2.2.2.2.1, hs_.2.2.2.2.2.2.2.1, hs_.2.2.2.2.2.2.2.2.1, hs_.2.2.2.2.2.2.2.2.2⟩)) (fun hn_ => ⟨(fR HO466 hn_), (fN HO470 hn_), (fK BK437 hn_), (fK BK438 hn_), (fK BK439 hn_), (fK BK467 hn_), (fK BK471 hn_)⟩))) (below_size mZ))
    replace HO466 := zR HO466 hb
    replace HO470 := zN HO470 hb
    replace BK437 := zK BK437 hb
    replace BK438 := zK BK438 hb
    replace BK439 := zK BK439 hb
    replace BK467 := zK BK467 hb
    replace BK471 := zK BK471 hb
    replace HB := zM (below_step mZ hb)
    (try clear hb)
    (try clear hb2)
    (try clear hk)
    (try clear hi)
    (try clear ho0)
    (try clear ho1)
    obtain ⟨Ao52, co52, eo52⟩ := Kd.V_slice HO479.out
    (first | subst eo52 | (injection eo52 with f1_ f2_ f3_; have f4_ := f1_.symm; have f5_ := f3_.symm; clear f1_ f2_ f3_; subst f4_; subst f5_))
    obtain ⟨Ao53, co53, eo53⟩ := Kd.V_slice HO482.out
    (first | subst eo53 | (injection eo53 with f1_ f2_ f3_; have f4_ := f1_.symm; have f5_ := f3_.symm; clear f1_ f2_ f3_; subst f4_; subst f5_))
    obtain ⟨Ao54, co54, eo54⟩ := Kd.V_slice HO490.out
    (first | subst eo54 | (injection eo54 with f1_ f2_ f3_; have f4_ := f1_.symm; have f5_ := f3_.symm; clear f1_ f2_ f3_; subst f4_; subst f5_))
    obtain ⟨Ao55, co55, eo55⟩ := Kd.V_slice HO493.out
    (first | subst eo55 | (injection eo55 with f1_ f2_ f3_; have f4_ := f1_.symm; have f5_ := f3_.symm; clear f1_ f2_ f3_; subst f4_; subst f5_))
    refine hK.out _ _ (zI7 BK437 (zJ7 BK438)) (fun hHeld => ?_)
    clear hK K
    refine norm_ (a' := ?_) ?_ ?_
    rotate_left
    ·show Act.put _ (some 33) _ = _
     simp only [Act.put, List.setIfInBounds_toArray, List.set_cons_zero, List.set_cons_succ, i64_w, i32_w]
     rfl
    refine two_ (i := 4) (j := 6) (Ni := some 34) (Nj := some 13) #[true, true, true, true, true, false, false, false] #[true, true, true, true, false, false, true, false] rfl rfl rfl rfl (two_of HT_.out (by kernel_rfl)) (by decide) (by decide) (fun K hK => ?_) (fun K hK => ?_)
    ·skip
     refine Kd.N_lit_step k25 _ 25 ?hg (N' := 34) ?hd (xs := ([(⟨t472, t473, t474, t475, t476, t477, t480⟩ : S25), (⟨t483, t484, t485, t486, t487, t488, t491⟩ : S25)] : List (S25))) (inner := [.int .i64 t472, .string t473, .int .i64 t474, .int .i64 t475, .string t476, .slice Ao52 t477.length co52, .slice Ao53 t480.length co53, .int .i64 t483, .string t484, .int .i64 t485, .int .i64 t486, .string t487, .slice Ao54 t488.length co54, .slice Ao55 t491.length co55]) (ok := (fun k_ => nb k_ Ao35 t464.length co35 ∧ nb k_ Ao41 y468.length co41 ∧ k_ ≠ gb437 ∧ k_ ≠ gb438 ∧ k_ ≠ gb439 ∧ k_ ≠ gb467 ∧ k_ ≠ gb471)) (okp := (fun k_ => nb k_ Ao35 t464.length co35 ∧ nb k_ Ao41 y468.length co41 ∧ k_ ≠ gb437 ∧ k_ ≠ gb438 ∧ k_ ≠ gb439 ∧ k_ ≠ gb467 ∧ k_ ≠ gb471)) ?hr ?hp (fun _ hk => hk) ⟨fR HO466 (Nat.le_refl _), fN HO470 (Nat.le_refl _), fK BK437 (Nat.le_refl _), fK BK438 (Nat.le_refl _), fK BK439 (Nat.le_refl _), fK BK467 (Nat.le_refl _), fK BK471 (Nat.le_refl _)⟩ (Below.refl _ _) (Nat.le_refl _) (by simp) ?_; (case hd => rfl); (case hg => rfl); (case hr => first | (go_simp; done) | (go_simp; rfl)); (case hp => exact (Reps.c7 (zF25 HO479 HO482) (Reps.c7 (zF25 HO490 HO493) (Reps.none _ _))))
     intro v495 w56 ho57 hb hg_ hnew_
     clear hg_ hnew_
     (first | rw [← Ny494.out] at ho57 | (simp only [Int.reduceToNat] at ho57; rw [← Ny494.out] at ho57))
     replace HO447 := zM (Kd.V_elder' (mV HO447.out) (by first | exact Kd.N_base ho57 | exact Kd.N_base (Kd.R_N ho57)) hb)
     replace HO450 := zM (Kd.V_elder' (mV HO450.out) (by first | exact Kd.N_base ho57 | exact Kd.N_base (Kd.R_N ho57)) hb)
     replace HO458 := zM (Kd.V_elder' (mV HO458.out) (by first | exact Kd.N_base ho57 | exact Kd.N_base (Kd.R_N ho57)) hb)
     replace HO461 := zM (Kd.V_elder' (mV HO461.out) (by first | exact Kd.N_base ho57 | exact Kd.N_base (Kd.R_N ho57)) hb)
     replace HO466 := zR HO466 hb
     replace HO470 := zM (Kd.N_elder' (mN HO470.out) (by first | exact Kd.N_base ho57 | exact Kd.N_base (Kd.R_N ho57)) hb)
     replace HO479 := zM (Kd.V_elder' (mV HO479.out) (by first | exact Kd.N_base ho57 | exact Kd.N_base (Kd.R_N ho57)) hb)
     replace HO482 := zM (Kd.V_elder' (mV HO482.out) (by first | exact Kd.N_base ho57 | exact Kd.N_base (Kd.R_N ho57)) hb)
     replace HO490 := zM (Kd.V_elder' (mV HO490.out) (by first | exact Kd.N_base ho57 | exact Kd.N_base (Kd.R_N ho57)) hb)
     replace HO493 := zM (Kd.V_elder' (mV HO493.out) (by first | exact Kd.N_base ho57 | exact Kd.N_base (Kd.R_N ho57)) hb)
     have HO496 := zM (Kd.N_lower ho57 (below_size mZ))
     replace BK437 := zK BK437 hb
     replace BK438 := zK BK438 hb
     replace BK439 := zK BK439 hb
     replace BK467 := zK BK467 hb
     replace BK471 := zK BK471 hb
     replace HB := zM (below_step mZ hb)
     clear hb ho57
     obtain ⟨Ao58, co58, eo58⟩ := Kd.N_slice HO496.out
     (first | subst eo58 | (injection eo58 with f1_ f2_ f3_; have f4_ := f1_.symm; have f5_ := f3_.symm; clear f1_ f2_ f3_; subst f4_; subst f5_))
     refine hK.out _ _ (zI7 BK437 (zJ7 BK438)) (fun hHeld => ?_)
     clear hK K
     refine norm_ (a' := ?_) ?_ ?_
     rotate_left
     ·show Act.put _ (some 34) _ = _
      simp only [Act.put, List.setIfInBounds_toArray, List.set_cons_zero, List.set_cons_succ, i64_w, i32_w]
      rfl
     refine pure_ (i := 5) (N := some 35) (v := ?_) (a' := ?_) #[true, true, true, true, true, true, false, false] rfl rfl (any_of HT_.out (by kernel_rfl)) (fun _ _ _ h => h) (Or.inl ⟨by rfl, ?_⟩) ?_ ?_
     rotate_left
     ·intro w'
      go_simp
      with_reducible rfl
     rotate_left
     ·simp only [Act.put, List.setIfInBounds_toArray, List.set_cons_zero, List.set_cons_succ, i64_w, i32_w]
      rfl
     refine one_ (i := 6) (N := some 13) #[true, true, true, true, true, true, true, false] rfl rfl (one_of HT_.out (by kernel_rfl)) (by decide) (fun K hK => ?_)
     refine box_step ?hg (N := 13) ?hd (cs := #[.int .i64 0, .string (⟨#[]⟩ : ByteArray), .int .i64 0, .int .i64 0, .string (⟨#[]⟩ : ByteArray), .slice none 0 0, .slice none 0 0]) (t := 25) ?hr ?_; (case hd => rfl); (case hg => rfl); (case hr => first | (go_simp; done) | (go_simp; rfl))
     intro gb497 hg w59 hbox hb
     replace HO447 := zM (Kd.V_below (Kd.V_elderB (mV HO447.out) gb497 (Nat.le_of_eq hg.symm)) hb)
     replace HO450 := zM (Kd.V_below (Kd.V_elderB (mV HO450.out) gb497 (Nat.le_of_eq hg.symm)) hb)
     replace HO458 := zM (Kd.V_below (Kd.V_elderB (mV HO458.out) gb497 (Nat.le_of_eq hg.symm)) hb)
     replace HO461 := zM (Kd.V_below (Kd.V_elderB (mV HO461.out) gb497 (Nat.le_of_eq hg.symm)) hb)
     replace HO466 := zR HO466 hb
     replace HO470 := zM (Kd.N_below (Kd.N_elderB (mN HO470.out) gb497 (Nat.le_of_eq hg.symm)) hb)
     replace HO479 := zM (Kd.V_below (Kd.V_elderB (mV HO479.out) gb497 (Nat.le_of_eq hg.symm)) hb)
     replace HO482 := zM (Kd.V_below (Kd.V_elderB (mV HO482.out) gb497 (Nat.le_of_eq hg.symm)) hb)
     replace HO490 := zM (Kd.V_below (Kd.V_elderB (mV HO490.out) gb497 (Nat.le_of_eq hg.symm)) hb)
     replace HO493 := zM (Kd.V_below (Kd.V_elderB (mV HO493.out) gb497 (Nat.le_of_eq hg.symm)) hb)
     replace HO496 := zM (Kd.N_below (Kd.N_elderB (mN HO496.out) gb497 (Nat.le_of_eq hg.symm)) hb)
     have BK497 := zM (hbox)
     have GW497 := zM ((by rw [hg]; exact (below_size mZ) : w.heap.size ≤ gb497))
     have GE497 := zM ((by rw [hg]; exact (below_size mZ) : w.heap.size ≤ gb497))
     replace HB := zM (below_step mZ hb)
     have NB437_497 := zL BK437 hg
     have NB497_437 := zG BK437 hg
     replace BK437 := zK BK437 hb
     have NB438_497 := zL BK438 hg
     have NB497_438 := zG BK438 hg
     replace BK438 := zK BK438 hb
     have NB439_497 := zL BK439 hg
     have NB497_439 := zG BK439 hg
     replace BK439 := zK BK439 hb
     have NB467_497 := zL BK467 hg
     have NB497_467 := zG BK467 hg
     replace BK467 := zK BK467 hb
     have NB471_497 := zL BK471 hg
     have NB497_471 := zG BK471 hg
     replace BK471 := zK BK471 hb
     clear hb hbox hg
     refine hK.out _ _ (zI7 BK437 (zJ7 BK438)) (fun hHeld => ?_)
     clear hK K
     refine norm_ (a' := ?_) ?_ ?_
     rotate_left
     ·show Act.put _ (some 13) _ = _
      simp only [Act.put, List.setIfInBounds_toArray, List.set_cons_zero, List.set_cons_succ, i64_w, i32_w]
      rfl
     exact norm_ (by simp only [putAll, Act.put, List.setIfInBounds_toArray, List.set_cons_zero, List.set_cons_succ]) (hCont (.slice Ao52 t477.length co52, .slice Ao53 t480.length co53, .slice Ao54 t488.length co54, .slice Ao55 t491.length co55, .slice Ao58 y494.length co58, gb497) _ ⟨hHeld, (yV HO447 (fun _ hk => ⟨hk.1.1.1, ⟨hk.1.1.2.1, ⟨hk.1.1.2.2.1, ⟨hk.1.1.2.2.2.1, ⟨hk.1.1.2.2.2.2.1, ⟨hk.1.2, ⟨hk.1.1.2.2.2.2.2.1, ⟨hk.1.1.2.2.2.2.2.2.1, ⟨hk.1.1.2.2.2.2.2.2.2.1, ⟨hk.1.1.2.2.2.2.2.2.2.2.1, ⟨hk.1.1.2.2.2.2.2.2.2.2.2, hk.2⟩⟩⟩⟩⟩⟩⟩⟩⟩⟩⟩)), (yV HO450 (fun _ hk => ⟨hk.1.1.1, ⟨hk.1.1.2.1, ⟨hk.1.1.2.2.1, ⟨hk.1.1.2.2.2.1, ⟨hk.1.1.2.2.2.2.1, ⟨hk.1.2, ⟨hk.1.1.2.2.2.2.2.1, ⟨hk.1.1.2.2.2.2.2.2.1, ⟨hk.1.1.2.2.2.2.2.2.2.1, ⟨hk.1.1.2.2.2.2.2.2.2.2.1, ⟨hk.1.1.2.2.2.2.2.2.2.2.2, hk.2⟩⟩⟩⟩⟩⟩⟩⟩⟩⟩⟩)), (yV HO458 (fun _ hk => ⟨hk.1.1.1, ⟨hk.1.1.2.1, ⟨hk.1.1.2.2.1, ⟨hk.1.1.2.2.2.1, ⟨hk.1.2, ⟨hk.1.1.2.2.2.2.1, ⟨hk.1.1.2.2.2.2.2.1, ⟨hk.1.1.2.2.2.2.2.2.1, ⟨hk.1.1.2.2.2.2.2.2.2.1, ⟨hk.1.1.2.2.2.2.2.2.2.2, hk.2⟩⟩⟩⟩⟩⟩⟩⟩⟩⟩)), (yV HO461 (fun _ hk => ⟨hk.1.1.1, ⟨hk.1.1.2.1, ⟨hk.1.1.2.2.1, ⟨hk.1.1.2.2.2.1, ⟨hk.1.1.2.2.2.2.1, ⟨hk.1.2, ⟨hk.1.1.2.2.2.2.2.1, ⟨hk.1.1.2.2.2.2.2.2.1, ⟨hk.1.1.2.2.2.2.2.2.2.1, ⟨hk.1.1.2.2.2.2.2.2.2.2.1, ⟨hk.1.1.2.2.2.2.2.2.2.2.2, hk.2⟩⟩⟩⟩⟩⟩⟩⟩⟩⟩⟩)), (mR HO466.out), (yN HO470 (fun _ hk => ⟨hk.1.1.1, ⟨hk.1.2, ⟨hk.1.1.2.1, ⟨hk.1.1.2.2.1, ⟨hk.1.1.2.2.2.1, ⟨hk.1.1.2.2.2.2.1, ⟨hk.1.1.2.2.2.2.2, hk.2⟩⟩⟩⟩⟩⟩⟩)), (yV HO479 (fun _ hk => ⟨hk.1.1.1, ⟨hk.1.1.2.1, ⟨hk.1.2, ⟨hk.1.1.2.2.1, ⟨hk.1.1.2.2.2.1, ⟨hk.1.1.2.2.2.2.1, ⟨hk.1.1.2.2.2.2.2.1, ⟨hk.1.1.2.2.2.2.2.2, hk.2⟩⟩⟩⟩⟩⟩⟩⟩)), (yV HO482 (fun _ hk => ⟨hk.1.1.1, ⟨hk.1.1.2.1, ⟨hk.1.2, ⟨hk.1.1.2.2.1, ⟨hk.1.1.2.2.2.1, ⟨hk.1.1.2.2.2.2.1, ⟨hk.1.1.2.2.2.2.2.1, ⟨hk.1.1.2.2.2.2.2.2, hk.2⟩⟩⟩⟩⟩⟩⟩⟩)), (yV HO490 (fun _ hk => ⟨hk.1.1.1, ⟨hk.1.1.2.1, ⟨hk.1.2, ⟨hk.1.1.2.2.1, ⟨hk.1.1.2.2.2.1, ⟨hk.1.1.2.2.2.2.1, ⟨hk.1.1.2.2.2.2.2.1, ⟨hk.1.1.2.2.2.2.2.2, hk.2⟩⟩⟩⟩⟩⟩⟩⟩)), (yV HO493 (fun _ hk => ⟨hk.1.1.1, ⟨hk.1.1.2.1, ⟨hk.1.2, ⟨hk.1.1.2.2.1, ⟨hk.1.1.2.2.2.1, ⟨hk.1.1.2.2.2.2.1, ⟨hk.1.1.2.2.2.2.2.1, ⟨hk.1.1.2.2.2.2.2.2, hk.2⟩⟩⟩⟩⟩⟩⟩⟩)), (yN HO496 (fun _ hk => ⟨hk.1.1, ⟨hk.1.2.1, ⟨hk.1.2.2.1, ⟨hk.1.2.2.2.1, ⟨hk.1.2.2.2.2.1, ⟨hk.1.2.2.2.2.2.1, ⟨hk.1.2.2.2.2.2.2, hk.2⟩⟩⟩⟩⟩⟩⟩)), (mK BK437.out), (mK BK438.out), (mK BK439.out), (mK BK467.out), (mK BK471.out), (mK BK497.out), GW497.out, GE497.out, NB437_497.out, NB497_437.out, NB438_497.out, NB497_438.out, NB439_497.out, NB497_439.out, NB467_497.out, NB497_467.out, NB471_497.out, NB497_471.out, mZ⟩)
    skip
    refine box_step ?hg (N := 13) ?hd (cs := #[.int .i64 0, .string (⟨#[]⟩ : ByteArray), .int .i64 0, .int .i64 0, .string (⟨#[]⟩ : ByteArray), .slice none 0 0, .slice none 0 0]) (t := 25) ?hr ?_; (case hd => rfl); (case hg => rfl); (case hr => first | (go_simp; done) | (go_simp; rfl))
    intro gb497 hg w52 hbox hb
    replace HO447 := zM (Kd.V_below (Kd.V_elderB (mV HO447.out) gb497 (Nat.le_of_eq hg.symm)) hb)
    replace HO450 := zM (Kd.V_below (Kd.V_elderB (mV HO450.out) gb497 (Nat.le_of_eq hg.symm)) hb)
    replace HO458 := zM (Kd.V_below (Kd.V_elderB (mV HO458.out) gb497 (Nat.le_of_eq hg.symm)) hb)
    replace HO461 := zM (Kd.V_below (Kd.V_elderB (mV HO461.out) gb497 (Nat.le_of_eq hg.symm)) hb)
    replace HO466 := zR HO466 hb
    replace HO470 := zM (Kd.N_below (Kd.N_elderB (mN HO470.out) gb497 (Nat.le_of_eq hg.symm)) hb)
    replace HO479 := zM (Kd.V_below (Kd.V_elderB (mV HO479.out) gb497 (Nat.le_of_eq hg.symm)) hb)
    replace HO482 := zM (Kd.V_below (Kd.V_elderB (mV HO482.out) gb497 (Nat.le_of_eq hg.symm)) hb)
    replace HO490 := zM (Kd.V_below (Kd.V_elderB (mV HO490.out) gb497 (Nat.le_of_eq hg.symm)) hb)
    replace HO493 := zM (Kd.V_below (Kd.V_elderB (mV HO493.out) gb497 (Nat.le_of_eq hg.symm)) hb)
    have BK497 := zM (hbox)
    have GW497 := zM ((by rw [hg]; exact (below_size mZ) : w.heap.size ≤ gb497))
    have GE497 := zM ((by rw [hg]; exact (below_size mZ) : w.heap.size ≤ gb497))
    replace HB := zM (below_step mZ hb)
    have NB437_497 := zL BK437 hg
    have NB497_437 := zG BK437 hg
    replace BK437 := zK BK437 hb
    have NB438_497 := zL BK438 hg
    have NB497_438 := zG BK438 hg
    replace BK438 := zK BK438 hb
    have NB439_497 := zL BK439 hg
    have NB497_439 := zG BK439 hg
    replace BK439 := zK BK439 hb
    have NB467_497 := zL BK467 hg
    have NB497_467 := zG BK467 hg
    replace BK467 := zK BK467 hb
    have NB471_497 := zL BK471 hg
    have NB497_471 := zG BK471 hg
    replace BK471 := zK BK471 hb
    clear hb hbox hg
    obtain ⟨Ao53, co53, eo53⟩ := Kd.V_slice HO479.out
    (first | subst eo53 | (injection eo53 with f1_ f2_ f3_; have f4_ := f1_.symm; have f5_ := f3_.symm; clear f1_ f2_ f3_; subst f4_; subst f5_))
    obtain ⟨Ao54, co54, eo54⟩ := Kd.V_slice HO482.out
    (first | subst eo54 | (injection eo54 with f1_ f2_ f3_; have f4_ := f1_.symm; have f5_ := f3_.symm; clear f1_ f2_ f3_; subst f4_; subst f5_))
    obtain ⟨Ao55, co55, eo55⟩ := Kd.V_slice HO490.out
    (first | subst eo55 | (injection eo55 with f1_ f2_ f3_; have f4_ := f1_.symm; have f5_ := f3_.symm; clear f1_ f2_ f3_; subst f4_; subst f5_))
    obtain ⟨Ao56, co56, eo56⟩ := Kd.V_slice HO493.out
    (first | subst eo56 | (injection eo56 with f1_ f2_ f3_; have f4_ := f1_.symm; have f5_ := f3_.symm; clear f1_ f2_ f3_; subst f4_; subst f5_))
    refine hK.out _ _ (zI7 BK437 (zJ7 BK438)) (fun hHeld => ?_)
    clear hK K
    refine norm_ (a' := ?_) ?_ ?_
    rotate_left
    ·show Act.put _ (some 13) _ = _
     simp only [Act.put, List.setIfInBounds_toArray, List.set_cons_zero, List.set_cons_succ, i64_w, i32_w]
     rfl
    refine one_ (i := 4) (N := some 34) #[true, true, true, true, true, false, true, false] rfl rfl (one_of HT_.out (by kernel_rfl)) (by decide) (fun K hK => ?_)
    refine Kd.N_lit_step k25 _ 25 ?hg (N' := 34) ?hd (xs := ([(⟨t472, t473, t474, t475, t476, t477, t480⟩ : S25), (⟨t483, t484, t485, t486, t487, t488, t491⟩ : S25)] : List (S25))) (inner := [.int .i64 t472, .string t473, .int .i64 t474, .int .i64 t475, .string t476, .slice Ao53 t477.length co53, .slice Ao54 t480.length co54, .int .i64 t483, .string t484, .int .i64 t485, .int .i64 t486, .string t487, .slice Ao55 t488.length co55, .slice Ao56 t491.length co56]) (ok := (fun k_ => nb k_ Ao35 t464.length co35 ∧ nb k_ Ao41 y468.length co41 ∧ k_ ≠ gb437 ∧ k_ ≠ gb438 ∧ k_ ≠ gb439 ∧ k_ ≠ gb467 ∧ k_ ≠ gb471 ∧ k_ ≠ gb497)) (okp := (fun k_ => nb k_ Ao35 t464.length co35 ∧ nb k_ Ao41 y468.length co41 ∧ k_ ≠ gb437 ∧ k_ ≠ gb438 ∧ k_ ≠ gb439 ∧ k_ ≠ gb467 ∧ k_ ≠ gb471 ∧ k_ ≠ gb497)) ?hr ?hp (fun _ hk => hk) ⟨fR HO466 (Nat.le_refl _), fN HO470 (Nat.le_refl _), fK BK437 (Nat.le_refl _), fK BK438 (Nat.le_refl _), fK BK439 (Nat.le_refl _), fK BK467 (Nat.le_refl _), fK BK471 (Nat.le_refl _), fK BK497 (Nat.le_refl _)⟩ (Below.refl _ _) (Nat.le_refl _) (by simp) ?_; (case hd => rfl); (case hg => rfl); (case hr => first | (go_simp; done) | (go_simp; rfl)); (case hp => exact (Reps.c7 (show Kd.FK k25 _ _ (⟨t472, t473, t474, t475, t476, t477, t480⟩ : S25) [.int .i64 t472, .string t473, .int .i64 t474, .int .i64 t475, .string t476, .slice Ao53 t477.length co53, .slice Ao54 t480.length co54] from (k25_mkF _ _ (⟨t472, t473, t474, t475, t476, t477, t480⟩ : S25) (Kd.V_reads' (Kd.V_mono (ok' := (fun k_ => nb k_ Ao35 t464.length co35 ∧ nb k_ Ao41 y468.length co41 ∧ k_ ≠ gb437 ∧ k_ ≠ gb438 ∧ k_ ≠ gb439 ∧ k_ ≠ gb467 ∧ k_ ≠ gb471 ∧ k_ ≠ gb497)) (HO479.out) (fun k_ hk => ⟨hk.1.1, ⟨hk.1.2.1, ⟨hk.1.2.2.1, ⟨hk.1.2.2.2.1, ⟨hk.1.2.2.2.2.1, ⟨hk.1.2.2.2.2.2.1, ⟨hk.1.2.2.2.2.2.2, hk.2⟩⟩⟩⟩⟩⟩⟩))).2.1 (Kd.V_F (by (with_reducible repeat (first | apply Kd.V_alloc | apply Kd.V_drewN | apply Kd.V_drew)); exact (Kd.V_mono (ok' := (fun k_ => nb k_ Ao35 t464.length co35 ∧ nb k_ Ao41 y468.length co41 ∧ k_ ≠ gb437 ∧ k_ ≠ gb438 ∧ k_ ≠ gb439 ∧ k_ ≠ gb467 ∧ k_ ≠ gb471 ∧ k_ ≠ gb497)) (HO479.out) (fun k_ hk => ⟨hk.1.1, ⟨hk.1.2.1, ⟨hk.1.2.2.1, ⟨hk.1.2.2.2.1, ⟨hk.1.2.2.2.2.1, ⟨hk.1.2.2.2.2.2.1, ⟨hk.1.2.2.2.2.2.2, hk.2⟩⟩⟩⟩⟩⟩⟩)))) (Kd.V_reads' (Kd.V_mono (ok' := (fun k_ => nb k_ Ao35 t464.length co35 ∧ nb k_ Ao41 y468.length co41 ∧ k_ ≠ gb437 ∧ k_ ≠ gb438 ∧ k_ ≠ gb439 ∧ k_ ≠ gb467 ∧ k_ ≠ gb471 ∧ k_ ≠ gb497)) (HO482.out) (fun k_ hk => ⟨hk.1.1, ⟨hk.1.2.1, ⟨hk.1.2.2.1, ⟨hk.1.2.2.2.1, ⟨hk.1.2.2.2.2.1, ⟨hk.1.2.2.2.2.2.1, ⟨hk.1.2.2.2.2.2.2, hk.2⟩⟩⟩⟩⟩⟩⟩))).2.1 (Kd.V_F (by (with_reducible repeat (first | apply Kd.V_alloc | apply Kd.V_drewN | apply Kd.V_drew)); exact (Kd.V_mono (ok' := (fun k_ => nb k_ Ao35 t464.length co35 ∧ nb k_ Ao41 y468.length co41 ∧ k_ ≠ gb437 ∧ k_ ≠ gb438 ∧ k_ ≠ gb439 ∧ k_ ≠ gb467 ∧ k_ ≠ gb471 ∧ k_ ≠ gb497)) (HO482.out) (fun k_ hk => ⟨hk.1.1, ⟨hk.1.2.1, ⟨hk.1.2.2.1, ⟨hk.1.2.2.2.1, ⟨hk.1.2.2.2.2.1, ⟨hk.1.2.2.2.2.2.1, ⟨hk.1.2.2.2.2.2.2, hk.2⟩⟩⟩⟩⟩⟩⟩)))))) (Reps.c7 (show Kd.FK k25 _ _ (⟨t483, t484, t485, t486, t487, t488, t491⟩ : S25) [.int .i64 t483, .string t484, .int .i64 t485, .int .i64 t486, .string t487, .slice Ao55 t488.length co55, .slice Ao56 t491.length co56] from (k25_mkF _ _ (⟨t483, t484, t485, t486, t487, t488, t491⟩ : S25) (Kd.V_reads' (Kd.V_mono (ok' := (fun k_ => nb k_ Ao35 t464.length co35 ∧ nb k_ Ao41 y468.length co41 ∧ k_ ≠ gb437 ∧ k_ ≠ gb438 ∧ k_ ≠ gb439 ∧ k_ ≠ gb467 ∧ k_ ≠ gb471 ∧ k_ ≠ gb497)) (HO490.out) (fun k_ hk => ⟨hk.1.1, ⟨hk.1.2.1, ⟨hk.1.2.2.1, ⟨hk.1.2.2.2.1, ⟨hk.1.2.2.2.2.1, ⟨hk.1.2.2.2.2.2.1, ⟨hk.1.2.2.2.2.2.2, hk.2⟩⟩⟩⟩⟩⟩⟩))).2.1 (Kd.V_F (by (with_reducible repeat (first | apply Kd.V_alloc | apply Kd.V_drewN | apply Kd.V_drew)); exact (Kd.V_mono (ok' := (fun k_ => nb k_ Ao35 t464.length co35 ∧ nb k_ Ao41 y468.length co41 ∧ k_ ≠ gb437 ∧ k_ ≠ gb438 ∧ k_ ≠ gb439 ∧ k_ ≠ gb467 ∧ k_ ≠ gb471 ∧ k_ ≠ gb497)) (HO490.out) (fun k_ hk => ⟨hk.1.1, ⟨hk.1.2.1, ⟨hk.1.2.2.1, ⟨hk.1.2.2.2.1, ⟨hk.1.2.2.2.2.1, ⟨hk.1.2.2.2.2.2.1, ⟨hk.1.2.2.2.2.2.2, hk.2⟩⟩⟩⟩⟩⟩⟩)))) (Kd.V_reads' (Kd.V_mono (ok' := (fun k_ => nb k_ Ao35 t464.length co35 ∧ nb k_ Ao41 y468.length co41 ∧ k_ ≠ gb437 ∧ k_ ≠ gb438 ∧ k_ ≠ gb439 ∧ k_ ≠ gb467 ∧ k_ ≠ gb471 ∧ k_ ≠ gb497)) (HO493.out) (fun k_ hk => ⟨hk.1.1, ⟨hk.1.2.1, ⟨hk.1.2.2.1, ⟨hk.1.2.2.2.1, ⟨hk.1.2.2.2.2.1, ⟨hk.1.2.2.2.2.2.1, ⟨hk.1.2.2.2.2.2.2, hk.2⟩⟩⟩⟩⟩⟩⟩))).2.1 (Kd.V_F (by (with_reducible repeat (first | apply Kd.V_alloc | apply Kd.V_drewN | apply Kd.V_drew)); exact (Kd.V_mono (ok' := (fun k_ => nb k_ Ao35 t464.length co35 ∧ nb k_ Ao41 y468.length co41 ∧ k_ ≠ gb437 ∧ k_ ≠ gb438 ∧ k_ ≠ gb439 ∧ k_ ≠ gb467 ∧ k_ ≠ gb471 ∧ k_ ≠ gb497)) (HO493.out) (fun k_ hk => ⟨hk.1.1, ⟨hk.1.2.1, ⟨hk.1.2.2.1, ⟨hk.1.2.2.2.1, ⟨hk.1.2.2.2.2.1, ⟨hk.1.2.2.2.2.2.1, ⟨hk.1.2.2.2.2.2.2, hk.2⟩⟩⟩⟩⟩⟩⟩)))))) (Reps.none _ _))))
    intro v495 w57 ho58 hb hg_ hnew_
    clear hg_ hnew_
    (first | rw [← Ny494.out] at ho58 | (simp only [Int.reduceToNat] at ho58; rw [← Ny494.out] at ho58))
    replace HO447 := zM (Kd.V_elder' (mV HO447.out) (by first | exact Kd.N_base ho58 | exact Kd.N_base (Kd.R_N ho58)) hb)
    replace HO450 := zM (Kd.V_elder' (mV HO450.out) (by first | exact Kd.N_base ho58 | exact Kd.N_base (Kd.R_N ho58)) hb)
    replace HO458 := zM (Kd.V_elder' (mV HO458.out) (by first | exact Kd.N_base ho58 | exact Kd.N_base (Kd.R_N ho58)) hb)
    replace HO461 := zM (Kd.V_elder' (mV HO461.out) (by first | exact Kd.N_base ho58 | exact Kd.N_base (Kd.R_N ho58)) hb)
    replace HO466 := zR HO466 hb
    replace HO470 := zM (Kd.N_elder' (mN HO470.out) (by first | exact Kd.N_base ho58 | exact Kd.N_base (Kd.R_N ho58)) hb)
    replace HO479 := zM (Kd.V_elder' (mV HO479.out) (by first | exact Kd.N_base ho58 | exact Kd.N_base (Kd.R_N ho58)) hb)
    replace HO482 := zM (Kd.V_elder' (mV HO482.out) (by first | exact Kd.N_base ho58 | exact Kd.N_base (Kd.R_N ho58)) hb)
    replace HO490 := zM (Kd.V_elder' (mV HO490.out) (by first | exact Kd.N_base ho58 | exact Kd.N_base (Kd.R_N ho58)) hb)
    replace HO493 := zM (Kd.V_elder' (mV HO493.out) (by first | exact Kd.N_base ho58 | exact Kd.N_base (Kd.R_N ho58)) hb)
    have HO496 := zM (Kd.N_lower ho58 (below_size mZ))
    replace BK437 := zK BK437 hb
    replace BK438 := zK BK438 hb
    replace BK439 := zK BK439 hb
    replace BK467 := zK BK467 hb
    replace BK471 := zK BK471 hb
    replace BK497 := zK BK497 hb
    replace HB := zM (below_step mZ hb)
    clear hb ho58
    obtain ⟨Ao59, co59, eo59⟩ := Kd.N_slice HO496.out
    (first | subst eo59 | (injection eo59 with f1_ f2_ f3_; have f4_ := f1_.symm; have f5_ := f3_.symm; clear f1_ f2_ f3_; subst f4_; subst f5_))
    refine hK.out _ _ (zI7 BK437 (zJ7 BK438)) (fun hHeld => ?_)
    clear hK K
    refine norm_ (a' := ?_) ?_ ?_
    rotate_left
    ·show Act.put _ (some 34) _ = _
     simp only [Act.put, List.setIfInBounds_toArray, List.set_cons_zero, List.set_cons_succ, i64_w, i32_w]
     rfl
    refine pure_ (i := 5) (N := some 35) (v := ?_) (a' := ?_) #[true, true, true, true, true, true, true, false] rfl rfl (any_of HT_.out (by kernel_rfl)) (fun _ _ _ h => h) (Or.inl ⟨by rfl, ?_⟩) ?_ ?_
    rotate_left
    ·intro w'
     go_simp
     with_reducible rfl
    rotate_left
    ·simp only [Act.put, List.setIfInBounds_toArray, List.set_cons_zero, List.set_cons_succ, i64_w, i32_w]
     rfl
    exact norm_ (by simp only [putAll, Act.put, List.setIfInBounds_toArray, List.set_cons_zero, List.set_cons_succ]) (hCont (.slice Ao53 t477.length co53, .slice Ao54 t480.length co54, .slice Ao55 t488.length co55, .slice Ao56 t491.length co56, .slice Ao59 y494.length co59, gb497) _ ⟨hHeld, (yV HO447 (fun _ hk => ⟨hk.1.1.1, ⟨hk.1.1.2.1, ⟨hk.1.1.2.2.1, ⟨hk.1.1.2.2.2.1, ⟨hk.1.1.2.2.2.2.1, ⟨hk.2, ⟨hk.1.1.2.2.2.2.2.1, ⟨hk.1.1.2.2.2.2.2.2.1, ⟨hk.1.1.2.2.2.2.2.2.2.1, ⟨hk.1.1.2.2.2.2.2.2.2.2.1, ⟨hk.1.1.2.2.2.2.2.2.2.2.2, hk.1.2⟩⟩⟩⟩⟩⟩⟩⟩⟩⟩⟩)), (yV HO450 (fun _ hk => ⟨hk.1.1.1, ⟨hk.1.1.2.1, ⟨hk.1.1.2.2.1, ⟨hk.1.1.2.2.2.1, ⟨hk.1.1.2.2.2.2.1, ⟨hk.2, ⟨hk.1.1.2.2.2.2.2.1, ⟨hk.1.1.2.2.2.2.2.2.1, ⟨hk.1.1.2.2.2.2.2.2.2.1, ⟨hk.1.1.2.2.2.2.2.2.2.2.1, ⟨hk.1.1.2.2.2.2.2.2.2.2.2, hk.1.2⟩⟩⟩⟩⟩⟩⟩⟩⟩⟩⟩)), (yV HO458 (fun _ hk => ⟨hk.1.1.1, ⟨hk.1.1.2.1, ⟨hk.1.1.2.2.1, ⟨hk.1.1.2.2.2.1, ⟨hk.2, ⟨hk.1.1.2.2.2.2.1, ⟨hk.1.1.2.2.2.2.2.1, ⟨hk.1.1.2.2.2.2.2.2.1, ⟨hk.1.1.2.2.2.2.2.2.2.1, ⟨hk.1.1.2.2.2.2.2.2.2.2, hk.1.2⟩⟩⟩⟩⟩⟩⟩⟩⟩⟩)), (yV HO461 (fun _ hk => ⟨hk.1.1.1, ⟨hk.1.1.2.1, ⟨hk.1.1.2.2.1, ⟨hk.1.1.2.2.2.1, ⟨hk.1.1.2.2.2.2.1, ⟨hk.2, ⟨hk.1.1.2.2.2.2.2.1, ⟨hk.1.1.2.2.2.2.2.2.1, ⟨hk.1.1.2.2.2.2.2.2.2.1, ⟨hk.1.1.2.2.2.2.2.2.2.2.1, ⟨hk.1.1.2.2.2.2.2.2.2.2.2, hk.1.2⟩⟩⟩⟩⟩⟩⟩⟩⟩⟩⟩)), (mR HO466.out), (yN HO470 (fun _ hk => ⟨hk.1.1.1, ⟨hk.2, ⟨hk.1.1.2.1, ⟨hk.1.1.2.2.1, ⟨hk.1.1.2.2.2.1, ⟨hk.1.1.2.2.2.2.1, ⟨hk.1.1.2.2.2.2.2, hk.1.2⟩⟩⟩⟩⟩⟩⟩)), (yV HO479 (fun _ hk => ⟨hk.1.1.1, ⟨hk.1.1.2.1, ⟨hk.2, ⟨hk.1.1.2.2.1, ⟨hk.1.1.2.2.2.1, ⟨hk.1.1.2.2.2.2.1, ⟨hk.1.1.2.2.2.2.2.1, ⟨hk.1.1.2.2.2.2.2.2, hk.1.2⟩⟩⟩⟩⟩⟩⟩⟩)), (yV HO482 (fun _ hk => ⟨hk.1.1.1, ⟨hk.1.1.2.1, ⟨hk.2, ⟨hk.1.1.2.2.1, ⟨hk.1.1.2.2.2.1, ⟨hk.1.1.2.2.2.2.1, ⟨hk.1.1.2.2.2.2.2.1, ⟨hk.1.1.2.2.2.2.2.2, hk.1.2⟩⟩⟩⟩⟩⟩⟩⟩)), (yV HO490 (fun _ hk => ⟨hk.1.1.1, ⟨hk.1.1.2.1, ⟨hk.2, ⟨hk.1.1.2.2.1, ⟨hk.1.1.2.2.2.1, ⟨hk.1.1.2.2.2.2.1, ⟨hk.1.1.2.2.2.2.2.1, ⟨hk.1.1.2.2.2.2.2.2, hk.1.2⟩⟩⟩⟩⟩⟩⟩⟩)), (yV HO493 (fun _ hk => ⟨hk.1.1.1, ⟨hk.1.1.2.1, ⟨hk.2, ⟨hk.1.1.2.2.1, ⟨hk.1.1.2.2.2.1, ⟨hk.1.1.2.2.2.2.1, ⟨hk.1.1.2.2.2.2.2.1, ⟨hk.1.1.2.2.2.2.2.2, hk.1.2⟩⟩⟩⟩⟩⟩⟩⟩)), (mN HO496.out), (mK BK437.out), (mK BK438.out), (mK BK439.out), (mK BK467.out), (mK BK471.out), (mK BK497.out), GW497.out, GE497.out, NB437_497.out, NB497_437.out, NB438_497.out, NB497_438.out, NB439_497.out, NB497_439.out, NB467_497.out, NB497_467.out, NB471_497.out, NB497_471.out, mZ⟩)
   skip
   refine box_step ?hg (N := 13) ?hd (cs := #[.int .i64 0, .string (⟨#[]⟩ : ByteArray), .int .i64 0, .int .i64 0, .string (⟨#[]⟩ : ByteArray), .slice none 0 0, .slice none 0 0]) (t := 25) ?hr ?_; (case hd => rfl); (case hg => rfl); (case hr => first | (go_simp; done) | (go_simp; rfl))
   intro gb497 hg w51 hbox hb
   replace HO447 := zM (Kd.V_below (Kd.V_elderB (mV HO447.out) gb497 (Nat.le_of_eq hg.symm)) hb)
   replace HO450 := zM (Kd.V_below (Kd.V_elderB (mV HO450.out) gb497 (Nat.le_of_eq hg.symm)) hb)
   replace HO458 := zM (Kd.V_below (Kd.V_elderB (mV HO458.out) gb497 (Nat.le_of_eq hg.symm)) hb)
   replace HO461 := zM (Kd.V_below (Kd.V_elderB (mV HO461.out) gb497 (Nat.le_of_eq hg.symm)) hb)
   replace HO466 := zR HO466 hb
   replace HO470 := zM (Kd.N_below (Kd.N_elderB (mN HO470.out) gb497 (Nat.le_of_eq hg.symm)) hb)
   replace HO479 := zM (Kd.V_below (Kd.V_elderB (mV HO479.out) gb497 (Nat.le_of_eq hg.symm)) hb)
   replace HO482 := zM (Kd.V_below (Kd.V_elderB (mV HO482.out) gb497 (Nat.le_of_eq hg.symm)) hb)
   have BK497 := zM (hbox)
   have GW497 := zM ((by rw [hg]; exact (below_size mZ) : w.heap.size ≤ gb497))
   have GE497 := zM ((by rw [hg]; exact (below_size mZ) : w.heap.size ≤ gb497))
   replace HB := zM (below_step mZ hb)
   have NB437_497 := zL BK437 hg
   have NB497_437 := zG BK437 hg
   replace BK437 := zK BK437 hb
   have NB438_497 := zL BK438 hg
   have NB497_438 := zG BK438 hg
   replace BK438 := zK BK438 hb
   have NB439_497 := zL BK439 hg
   have NB497_439 := zG BK439 hg
   replace BK439 := zK BK439 hb
   have NB467_497 := zL BK467 hg
   have NB497_467 := zG BK467 hg
   replace BK467 := zK BK467 hb
   have NB471_497 := zL BK471 hg
   have NB497_471 := zG BK471 hg
   replace BK471 := zK BK471 hb
   clear hb hbox hg
   refine hK.out _ _ (zI7 BK437 (zJ7 BK438)) (fun hHeld => ?_)
   clear hK K
   refine norm_ (a' := ?_) ?_ ?_
   rotate_left
   ·show Act.put _ (some 13) _ = _
    simp only [Act.put, List.setIfInBounds_toArray, List.set_cons_zero, List.set_cons_succ, i64_w, i32_w]
    rfl
   refine one_ (i := 3) (N := some 33) #[true, true, true, true, false, false, true, false] rfl rfl (one_of HT_.out (by kernel_rfl)) (by decide) (fun K hK => ?_)
   refine goes_ Try.func16 (by kernel_rfl) rfl #[.agg #[.int .i64 t451, .string t452, .int .i64 t453, .int .i64 t454, .string t455, .slice Ao26 t456.length co26, .slice Ao27 t459.length co27], .int .i64 1] (by rfl) rfl rfl yb ?_
   with_reducible refine (columbariumlaw13_nots.calls k t451 t452 t453 t454 t455 (fun k_ => ((nb k_ Ao20 t445.length co20 ∧ (nb k_ Ao27 t459.length co27 ∧ (nb k_ Ao35 t464.length co35 ∧ (nb k_ Ao41 y468.length co41 ∧ (k_ ≠ gb437 ∧ (k_ ≠ gb438 ∧ (k_ ≠ gb439 ∧ (k_ ≠ gb467 ∧ k_ ≠ gb471)))))))) ∧ k_ ≠ gb497)) _ _ t456 (fun k_ => ((nb k_ Ao20 t445.length co20 ∧ (nb k_ Ao21 t448.length co21 ∧ (nb k_ Ao26 t456.length co26 ∧ (nb k_ Ao35 t464.length co35 ∧ (nb k_ Ao41 y468.length co41 ∧ (k_ ≠ gb437 ∧ (k_ ≠ gb438 ∧ (k_ ≠ gb439 ∧ (k_ ≠ gb467 ∧ k_ ≠ gb471))))))))) ∧ k_ ≠ gb497)) _ _ t459 1 t483 t484 t485 t486 t487 t488 t491 _ ?side1 ?side2 A10.out).mono ?_
   (case side1 => first | exact HO458.out | exact Kd.V_mono HO458.out (fun k_ hk_ => by grind))
   (case side2 => first | exact HO461.out | exact Kd.V_mono HO461.out (fun k_ hk_ => by grind))
   rintro e w52 ⟨v489, v492, rfl, ho0, ho1, hb⟩
   refine ⟨_, rfl, ?_⟩
   replace HO447 := zV HO447 hb
   replace HO450 := zV HO450 hb
   replace HO458 := zV HO458 hb
   replace HO461 := zV HO461 hb
   replace HO479 := zV HO479 hb
   replace HO482 := zV HO482 hb
   have HO490 := zM (Kd.V_lower (Kd.V_mono (ok' := fun k_ => nb k_ Ao35 t464.length co35 ∧ nb k_ Ao41 y468.length co41 ∧ k_ ≠ gb437 ∧ k_ ≠ gb438 ∧ k_ ≠ gb439 ∧ k_ ≠ gb467 ∧ k_ ≠ gb471 ∧ k_ ≠ gb497) ho0 (fun k_ hk_ => Or.elim hk_ (fun hs_ => Or.elim hs_ (fun hs_ => ⟨hs_.1.2.2.1, hs_.1.2.2.2.1, hs_.1.2.2.2.2.1, hs_.1.2.2.2.2.2.1, hs_.1.2.2.2.2.2.2.1, hs_.1.2.2.2.2.2.2.2.1, hs_.1.2.2.2.2.2.2.2.2, hs_.2⟩) (fun hs_ => ⟨hs_.1.2.2.2.1, hs_.1.2.2.2.2.1, hs_.1.2.2.2.2.2.1, hs_.1.2.2.2.2.2.2.1, hs_.1.2.2.2.2.2.2.2.1, hs_.1.2.2.2.2.2.2.2.2.1, hs_.1.2.2.2.2.2.2.2.2.2, hs_.2⟩)) (fun hn_ => ⟨(fR HO466 hn_), (fN HO470 hn_), (fK BK437 hn_), (fK BK438 hn_), (fK BK439 hn_), (fK BK467 hn_), (fK BK471 hn_), (fK BK497 hn_)⟩))) (below_size mZ))
   have HO493 := zM (Kd.V_lower (Kd.V_mono (ok' := fun k_ => nb k_ Ao35 t464.length co35 ∧ nb k_ Ao41 y468.length co41 ∧ k_ ≠ gb437 ∧ k_ ≠ gb438 ∧ k_ ≠ gb439 ∧ k_ ≠ gb467 ∧ k_ ≠ gb471 ∧ k_ ≠ gb497) ho1 (fun k_ hk_ => Or.elim hk_ (fun hs_ => Or.elim hs_ (fun hs_ => ⟨hs_.1.2.2.1, hs_.1.2.2.2.1, hs_.1.2.2.2.2.1, hs_.1.2.2.2.2.2.1, hs_.1.2.2.2.2.2.2.1, hs_.1.2.2.2.2.2.2.2.1, hs_.1.2.2.2.2.2.2.2.2, hs_.2⟩) (fun hs_ => ⟨hs_.1.2.2.2.1, hs_.1.2.2.2.2.1, hs_.1.2.2.2.2.2.1, hs_.1.2.2.2.2.2.2.1, hs_.1.2.2.2.2.2.2.2.1, hs_.1.2.2.2.2.2.2.2.2.1, hs_.1.2.2.2.2.2.2.2.2.2, hs_.2⟩)) (fun hn_ => ⟨(fR HO466 hn_), (fN HO470 hn_), (fK BK437 hn_), (fK BK438 hn_), (fK BK439 hn_), (fK BK467 hn_), (fK BK471 hn_), (fK BK497 hn_)⟩))) (below_size mZ))
   replace HO466 := zR HO466 hb
   replace HO470 := zN HO470 hb
   replace BK437 := zK BK437 hb
   replace BK438 := zK BK438 hb
   replace BK439 := zK BK439 hb
   replace BK467 := zK BK467 hb
   replace BK471 := zK BK471 hb
   replace BK497 := zK BK497 hb
   replace HB := zM (below_step mZ hb)
   (try clear hb)
   (try clear hb2)
   (try clear hk)
   (try clear hi)
   (try clear ho0)
   (try clear ho1)
   obtain ⟨Ao53, co53, eo53⟩ := Kd.V_slice HO479.out
   (first | subst eo53 | (injection eo53 with f1_ f2_ f3_; have f4_ := f1_.symm; have f5_ := f3_.symm; clear f1_ f2_ f3_; subst f4_; subst f5_))
   obtain ⟨Ao54, co54, eo54⟩ := Kd.V_slice HO482.out
   (first | subst eo54 | (injection eo54 with f1_ f2_ f3_; have f4_ := f1_.symm; have f5_ := f3_.symm; clear f1_ f2_ f3_; subst f4_; subst f5_))
   obtain ⟨Ao55, co55, eo55⟩ := Kd.V_slice HO490.out
   (first | subst eo55 | (injection eo55 with f1_ f2_ f3_; have f4_ := f1_.symm; have f5_ := f3_.symm; clear f1_ f2_ f3_; subst f4_; subst f5_))
   obtain ⟨Ao56, co56, eo56⟩ := Kd.V_slice HO493.out
   (first | subst eo56 | (injection eo56 with f1_ f2_ f3_; have f4_ := f1_.symm; have f5_ := f3_.symm; clear f1_ f2_ f3_; subst f4_; subst f5_))
   refine hK.out _ _ (zI7 BK437 (zJ7 BK438)) (fun hHeld => ?_)
   clear hK K
   refine norm_ (a' := ?_) ?_ ?_
   rotate_left
   ·show Act.put _ (some 33) _ = _
    simp only [Act.put, List.setIfInBounds_toArray, List.set_cons_zero, List.set_cons_succ, i64_w, i32_w]
    rfl
   refine one_ (i := 4) (N := some 34) #[true, true, true, true, true, false, true, false] rfl rfl (one_of HT_.out (by kernel_rfl)) (by decide) (fun K hK => ?_)
   refine Kd.N_lit_step k25 _ 25 ?hg (N' := 34) ?hd (xs := ([(⟨t472, t473, t474, t475, t476, t477, t480⟩ : S25), (⟨t483, t484, t485, t486, t487, t488, t491⟩ : S25)] : List (S25))) (inner := [.int .i64 t472, .string t473, .int .i64 t474, .int .i64 t475, .string t476, .slice Ao53 t477.length co53, .slice Ao54 t480.length co54, .int .i64 t483, .string t484, .int .i64 t485, .int .i64 t486, .string t487, .slice Ao55 t488.length co55, .slice Ao56 t491.length co56]) (ok := (fun k_ => nb k_ Ao35 t464.length co35 ∧ nb k_ Ao41 y468.length co41 ∧ k_ ≠ gb437 ∧ k_ ≠ gb438 ∧ k_ ≠ gb439 ∧ k_ ≠ gb467 ∧ k_ ≠ gb471 ∧ k_ ≠ gb497)) (okp := (fun k_ => nb k_ Ao35 t464.length co35 ∧ nb k_ Ao41 y468.length co41 ∧ k_ ≠ gb437 ∧ k_ ≠ gb438 ∧ k_ ≠ gb439 ∧ k_ ≠ gb467 ∧ k_ ≠ gb471 ∧ k_ ≠ gb497)) ?hr ?hp (fun _ hk => hk) ⟨fR HO466 (Nat.le_refl _), fN HO470 (Nat.le_refl _), fK BK437 (Nat.le_refl _), fK BK438 (Nat.le_refl _), fK BK439 (Nat.le_refl _), fK BK467 (Nat.le_refl _), fK BK471 (Nat.le_refl _), fK BK497 (Nat.le_refl _)⟩ (Below.refl _ _) (Nat.le_refl _) (by simp) ?_; (case hd => rfl); (case hg => rfl); (case hr => first | (go_simp; done) | (go_simp; rfl)); (case hp => exact (Reps.c7 (show Kd.FK k25 _ _ (⟨t472, t473, t474, t475, t476, t477, t480⟩ : S25) [.int .i64 t472, .string t473, .int .i64 t474, .int .i64 t475, .string t476, .slice Ao53 t477.length co53, .slice Ao54 t480.length co54] from (k25_mkF _ _ (⟨t472, t473, t474, t475, t476, t477, t480⟩ : S25) (Kd.V_reads' (Kd.V_mono (ok' := (fun k_ => nb k_ Ao35 t464.length co35 ∧ nb k_ Ao41 y468.length co41 ∧ k_ ≠ gb437 ∧ k_ ≠ gb438 ∧ k_ ≠ gb439 ∧ k_ ≠ gb467 ∧ k_ ≠ gb471 ∧ k_ ≠ gb497)) (HO479.out) (fun k_ hk => ⟨hk.1.1, ⟨hk.1.2.1, ⟨hk.1.2.2.1, ⟨hk.1.2.2.2.1, ⟨hk.1.2.2.2.2.1, ⟨hk.1.2.2.2.2.2.1, ⟨hk.1.2.2.2.2.2.2, hk.2⟩⟩⟩⟩⟩⟩⟩))).2.1 (Kd.V_F (by (with_reducible repeat (first | apply Kd.V_alloc | apply Kd.V_drewN | apply Kd.V_drew)); exact (Kd.V_mono (ok' := (fun k_ => nb k_ Ao35 t464.length co35 ∧ nb k_ Ao41 y468.length co41 ∧ k_ ≠ gb437 ∧ k_ ≠ gb438 ∧ k_ ≠ gb439 ∧ k_ ≠ gb467 ∧ k_ ≠ gb471 ∧ k_ ≠ gb497)) (HO479.out) (fun k_ hk => ⟨hk.1.1, ⟨hk.1.2.1, ⟨hk.1.2.2.1, ⟨hk.1.2.2.2.1, ⟨hk.1.2.2.2.2.1, ⟨hk.1.2.2.2.2.2.1, ⟨hk.1.2.2.2.2.2.2, hk.2⟩⟩⟩⟩⟩⟩⟩)))) (Kd.V_reads' (Kd.V_mono (ok' := (fun k_ => nb k_ Ao35 t464.length co35 ∧ nb k_ Ao41 y468.length co41 ∧ k_ ≠ gb437 ∧ k_ ≠ gb438 ∧ k_ ≠ gb439 ∧ k_ ≠ gb467 ∧ k_ ≠ gb471 ∧ k_ ≠ gb497)) (HO482.out) (fun k_ hk => ⟨hk.1.1, ⟨hk.1.2.1, ⟨hk.1.2.2.1, ⟨hk.1.2.2.2.1, ⟨hk.1.2.2.2.2.1, ⟨hk.1.2.2.2.2.2.1, ⟨hk.1.2.2.2.2.2.2, hk.2⟩⟩⟩⟩⟩⟩⟩))).2.1 (Kd.V_F (by (with_reducible repeat (first | apply Kd.V_alloc | apply Kd.V_drewN | apply Kd.V_drew)); exact (Kd.V_mono (ok' := (fun k_ => nb k_ Ao35 t464.length co35 ∧ nb k_ Ao41 y468.length co41 ∧ k_ ≠ gb437 ∧ k_ ≠ gb438 ∧ k_ ≠ gb439 ∧ k_ ≠ gb467 ∧ k_ ≠ gb471 ∧ k_ ≠ gb497)) (HO482.out) (fun k_ hk => ⟨hk.1.1, ⟨hk.1.2.1, ⟨hk.1.2.2.1, ⟨hk.1.2.2.2.1, ⟨hk.1.2.2.2.2.1, ⟨hk.1.2.2.2.2.2.1, ⟨hk.1.2.2.2.2.2.2, hk.2⟩⟩⟩⟩⟩⟩⟩)))))) (Reps.c7 (zF25 HO490 HO493) (Reps.none _ _))))
   intro v495 w57 ho58 hb hg_ hnew_
   clear hg_ hnew_
   (first | rw [← Ny494.out] at ho58 | (simp only [Int.reduceToNat] at ho58; rw [← Ny494.out] at ho58))
   replace HO447 := zM (Kd.V_elder' (mV HO447.out) (by first | exact Kd.N_base ho58 | exact Kd.N_base (Kd.R_N ho58)) hb)
   replace HO450 := zM (Kd.V_elder' (mV HO450.out) (by first | exact Kd.N_base ho58 | exact Kd.N_base (Kd.R_N ho58)) hb)
   replace HO458 := zM (Kd.V_elder' (mV HO458.out) (by first | exact Kd.N_base ho58 | exact Kd.N_base (Kd.R_N ho58)) hb)
   replace HO461 := zM (Kd.V_elder' (mV HO461.out) (by first | exact Kd.N_base ho58 | exact Kd.N_base (Kd.R_N ho58)) hb)
   replace HO466 := zR HO466 hb
   replace HO470 := zM (Kd.N_elder' (mN HO470.out) (by first | exact Kd.N_base ho58 | exact Kd.N_base (Kd.R_N ho58)) hb)
   replace HO479 := zM (Kd.V_elder' (mV HO479.out) (by first | exact Kd.N_base ho58 | exact Kd.N_base (Kd.R_N ho58)) hb)
   replace HO482 := zM (Kd.V_elder' (mV HO482.out) (by first | exact Kd.N_base ho58 | exact Kd.N_base (Kd.R_N ho58)) hb)
   replace HO490 := zM (Kd.V_elder' (mV HO490.out) (by first | exact Kd.N_base ho58 | exact Kd.N_base (Kd.R_N ho58)) hb)
   replace HO493 := zM (Kd.V_elder' (mV HO493.out) (by first | exact Kd.N_base ho58 | exact Kd.N_base (Kd.R_N ho58)) hb)
   have HO496 := zM (Kd.N_lower ho58 (below_size mZ))
   replace BK437 := zK BK437 hb
   replace BK438 := zK BK438 hb
   replace BK439 := zK BK439 hb
   replace BK467 := zK BK467 hb
   replace BK471 := zK BK471 hb
   replace BK497 := zK BK497 hb
   replace HB := zM (below_step mZ hb)
   clear hb ho58
   obtain ⟨Ao59, co59, eo59⟩ := Kd.N_slice HO496.out
   (first | subst eo59 | (injection eo59 with f1_ f2_ f3_; have f4_ := f1_.symm; have f5_ := f3_.symm; clear f1_ f2_ f3_; subst f4_; subst f5_))
   refine hK.out _ _ (zI7 BK437 (zJ7 BK438)) (fun hHeld => ?_)
   clear hK K
   refine norm_ (a' := ?_) ?_ ?_
   rotate_left
   ·show Act.put _ (some 34) _ = _
    simp only [Act.put, List.setIfInBounds_toArray, List.set_cons_zero, List.set_cons_succ, i64_w, i32_w]
    rfl
   refine pure_ (i := 5) (N := some 35) (v := ?_) (a' := ?_) #[true, true, true, true, true, true, true, false] rfl rfl (any_of HT_.out (by kernel_rfl)) (fun _ _ _ h => h) (Or.inl ⟨by rfl, ?_⟩) ?_ ?_
   rotate_left
   ·intro w'
    go_simp
    with_reducible rfl
   rotate_left
   ·simp only [Act.put, List.setIfInBounds_toArray, List.set_cons_zero, List.set_cons_succ, i64_w, i32_w]
    rfl
   exact norm_ (by simp only [putAll, Act.put, List.setIfInBounds_toArray, List.set_cons_zero, List.set_cons_succ]) (hCont (.slice Ao53 t477.length co53, .slice Ao54 t480.length co54, .slice Ao55 t488.length co55, .slice Ao56 t491.length co56, .slice Ao59 y494.length co59, gb497) _ ⟨hHeld, (yV HO447 (fun _ hk => ⟨hk.1.1.1, ⟨hk.1.1.2.1, ⟨hk.1.1.2.2.1, ⟨hk.1.1.2.2.2.1, ⟨hk.1.1.2.2.2.2.1, ⟨hk.2, ⟨hk.1.1.2.2.2.2.2.1, ⟨hk.1.1.2.2.2.2.2.2.1, ⟨hk.1.1.2.2.2.2.2.2.2.1, ⟨hk.1.1.2.2.2.2.2.2.2.2.1, ⟨hk.1.1.2.2.2.2.2.2.2.2.2, hk.1.2⟩⟩⟩⟩⟩⟩⟩⟩⟩⟩⟩)), (yV HO450 (fun _ hk => ⟨hk.1.1.1, ⟨hk.1.1.2.1, ⟨hk.1.1.2.2.1, ⟨hk.1.1.2.2.2.1, ⟨hk.1.1.2.2.2.2.1, ⟨hk.2, ⟨hk.1.1.2.2.2.2.2.1, ⟨hk.1.1.2.2.2.2.2.2.1, ⟨hk.1.1.2.2.2.2.2.2.2.1, ⟨hk.1.1.2.2.2.2.2.2.2.2.1, ⟨hk.1.1.2.2.2.2.2.2.2.2.2, hk.1.2⟩⟩⟩⟩⟩⟩⟩⟩⟩⟩⟩)), (yV HO458 (fun _ hk => ⟨hk.1.1.1, ⟨hk.1.1.2.1, ⟨hk.1.1.2.2.1, ⟨hk.1.1.2.2.2.1, ⟨hk.2, ⟨hk.1.1.2.2.2.2.1, ⟨hk.1.1.2.2.2.2.2.1, ⟨hk.1.1.2.2.2.2.2.2.1, ⟨hk.1.1.2.2.2.2.2.2.2.1, ⟨hk.1.1.2.2.2.2.2.2.2.2, hk.1.2⟩⟩⟩⟩⟩⟩⟩⟩⟩⟩)), (yV HO461 (fun _ hk => ⟨hk.1.1.1, ⟨hk.1.1.2.1, ⟨hk.1.1.2.2.1, ⟨hk.1.1.2.2.2.1, ⟨hk.1.1.2.2.2.2.1, ⟨hk.2, ⟨hk.1.1.2.2.2.2.2.1, ⟨hk.1.1.2.2.2.2.2.2.1, ⟨hk.1.1.2.2.2.2.2.2.2.1, ⟨hk.1.1.2.2.2.2.2.2.2.2.1, ⟨hk.1.1.2.2.2.2.2.2.2.2.2, hk.1.2⟩⟩⟩⟩⟩⟩⟩⟩⟩⟩⟩)), (mR HO466.out), (yN HO470 (fun _ hk => ⟨hk.1.1.1, ⟨hk.2, ⟨hk.1.1.2.1, ⟨hk.1.1.2.2.1, ⟨hk.1.1.2.2.2.1, ⟨hk.1.1.2.2.2.2.1, ⟨hk.1.1.2.2.2.2.2, hk.1.2⟩⟩⟩⟩⟩⟩⟩)), (yV HO479 (fun _ hk => ⟨hk.1.1.1, ⟨hk.1.1.2.1, ⟨hk.2, ⟨hk.1.1.2.2.1, ⟨hk.1.1.2.2.2.1, ⟨hk.1.1.2.2.2.2.1, ⟨hk.1.1.2.2.2.2.2.1, ⟨hk.1.1.2.2.2.2.2.2, hk.1.2⟩⟩⟩⟩⟩⟩⟩⟩)), (yV HO482 (fun _ hk => ⟨hk.1.1.1, ⟨hk.1.1.2.1, ⟨hk.2, ⟨hk.1.1.2.2.1, ⟨hk.1.1.2.2.2.1, ⟨hk.1.1.2.2.2.2.1, ⟨hk.1.1.2.2.2.2.2.1, ⟨hk.1.1.2.2.2.2.2.2, hk.1.2⟩⟩⟩⟩⟩⟩⟩⟩)), (yV HO490 (fun _ hk => ⟨hk.1.1, ⟨hk.1.2.1, ⟨hk.2, ⟨hk.1.2.2.1, ⟨hk.1.2.2.2.1, ⟨hk.1.2.2.2.2.1, ⟨hk.1.2.2.2.2.2.1, ⟨hk.1.2.2.2.2.2.2.1, hk.1.2.2.2.2.2.2.2⟩⟩⟩⟩⟩⟩⟩⟩)), (yV HO493 (fun _ hk => ⟨hk.1.1, ⟨hk.1.2.1, ⟨hk.2, ⟨hk.1.2.2.1, ⟨hk.1.2.2.2.1, ⟨hk.1.2.2.2.2.1, ⟨hk.1.2.2.2.2.2.1, ⟨hk.1.2.2.2.2.2.2.1, hk.1.2.2.2.2.2.2.2⟩⟩⟩⟩⟩⟩⟩⟩)), (mN HO496.out), (mK BK437.out), (mK BK438.out), (mK BK439.out), (mK BK467.out), (mK BK471.out), (mK BK497.out), GW497.out, GE497.out, NB437_497.out, NB497_437.out, NB438_497.out, NB497_438.out, NB439_497.out, NB497_439.out, NB467_497.out, NB497_467.out, NB471_497.out, NB497_471.out, mZ⟩)
  skip
  refine box_step ?hg (N := 13) ?hd (cs := #[.int .i64 0, .string (⟨#[]⟩ : ByteArray), .int .i64 0, .int .i64 0, .string (⟨#[]⟩ : ByteArray), .slice none 0 0, .slice none 0 0]) (t := 25) ?hr ?_; (case hd => rfl); (case hg => rfl); (case hr => first | (go_simp; done) | (go_simp; rfl))
  intro gb497 hg w50 hbox hb
  replace HO447 := zM (Kd.V_below (Kd.V_elderB (mV HO447.out) gb497 (Nat.le_of_eq hg.symm)) hb)
  replace HO450 := zM (Kd.V_below (Kd.V_elderB (mV HO450.out) gb497 (Nat.le_of_eq hg.symm)) hb)
  replace HO458 := zM (Kd.V_below (Kd.V_elderB (mV HO458.out) gb497 (Nat.le_of_eq hg.symm)) hb)
  replace HO461 := zM (Kd.V_below (Kd.V_elderB (mV HO461.out) gb497 (Nat.le_of_eq hg.symm)) hb)
  replace HO466 := zR HO466 hb
  replace HO470 := zM (Kd.N_below (Kd.N_elderB (mN HO470.out) gb497 (Nat.le_of_eq hg.symm)) hb)
  have BK497 := zM (hbox)
  have GW497 := zM ((by rw [hg]; exact (below_size mZ) : w.heap.size ≤ gb497))
  have GE497 := zM ((by rw [hg]; exact (below_size mZ) : w.heap.size ≤ gb497))
  replace HB := zM (below_step mZ hb)
  have NB437_497 := zL BK437 hg
  have NB497_437 := zG BK437 hg
  replace BK437 := zK BK437 hb
  have NB438_497 := zL BK438 hg
  have NB497_438 := zG BK438 hg
  replace BK438 := zK BK438 hb
  have NB439_497 := zL BK439 hg
  have NB497_439 := zG BK439 hg
  replace BK439 := zK BK439 hb
  have NB467_497 := zL BK467 hg
  have NB497_467 := zG BK467 hg
  replace BK467 := zK BK467 hb
  have NB471_497 := zL BK471 hg
  have NB497_471 := zG BK471 hg
  replace BK471 := zK BK471 hb
  clear hb hbox hg
  refine hK.out _ _ (zI7 BK437 (zJ7 BK438)) (fun hHeld => ?_)
  clear hK K
  refine norm_ (a' := ?_) ?_ ?_
  rotate_left
  ·show Act.put _ (some 13) _ = _
   simp only [Act.put, List.setIfInBounds_toArray, List.set_cons_zero, List.set_cons_succ, i64_w, i32_w]
   rfl
  refine one_ (i := 1) (N := some 31) #[true, true, true, false, false, false, true, false] rfl rfl (one_of HT_.out (by kernel_rfl)) (by decide) (fun K hK => ?_)
  refine goes_ Try.func16 (by kernel_rfl) rfl #[.agg #[.int .i64 t440, .string t441, .int .i64 t442, .int .i64 t443, .string t444, .slice Ao20 t445.length co20, .slice Ao21 t448.length co21], .int .i64 1] (by rfl) rfl rfl yb ?_
  with_reducible refine (columbariumlaw13_nots.calls k t440 t441 t442 t443 t444 (fun k_ => ((nb k_ Ao21 t448.length co21 ∧ (nb k_ Ao26 t456.length co26 ∧ (nb k_ Ao27 t459.length co27 ∧ (nb k_ Ao35 t464.length co35 ∧ (nb k_ Ao41 y468.length co41 ∧ (k_ ≠ gb437 ∧ (k_ ≠ gb438 ∧ (k_ ≠ gb439 ∧ (k_ ≠ gb467 ∧ k_ ≠ gb471))))))))) ∧ k_ ≠ gb497)) _ _ t445 (fun k_ => ((nb k_ Ao20 t445.length co20 ∧ (nb k_ Ao26 t456.length co26 ∧ (nb k_ Ao27 t459.length co27 ∧ (nb k_ Ao35 t464.length co35 ∧ (nb k_ Ao41 y468.length co41 ∧ (k_ ≠ gb437 ∧ (k_ ≠ gb438 ∧ (k_ ≠ gb439 ∧ (k_ ≠ gb467 ∧ k_ ≠ gb471))))))))) ∧ k_ ≠ gb497)) _ _ t448 1 t472 t473 t474 t475 t476 t477 t480 _ ?side1 ?side2 A9.out).mono ?_
  (case side1 => first | exact HO447.out | exact Kd.V_mono HO447.out (fun k_ hk_ => by grind))
  (case side2 => first | exact HO450.out | exact Kd.V_mono HO450.out (fun k_ hk_ => by grind))
  rintro e w51 ⟨v478, v481, rfl, ho0, ho1, hb⟩
  refine ⟨_, rfl, ?_⟩
  replace HO447 := zV HO447 hb
  replace HO450 := zV HO450 hb
  replace HO458 := zV HO458 hb
  replace HO461 := zV HO461 hb
  have HO479 := zM (Kd.V_lower (Kd.V_mono (ok' := fun k_ => nb k_ Ao35 t464.length co35 ∧ nb k_ Ao41 y468.length co41 ∧ k_ ≠ gb437 ∧ k_ ≠ gb438 ∧ k_ ≠ gb439 ∧ k_ ≠ gb467 ∧ k_ ≠ gb471 ∧ k_ ≠ gb497) ho0 (fun k_ hk_ => Or.elim hk_ (fun hs_ => Or.elim hs_ (fun hs_ => ⟨hs_.1.2.2.2.1, hs_.1.2.2.2.2.1, hs_.1.2.2.2.2.2.1, hs_.1.2.2.2.2.2.2.1, hs_.1.2.2.2.2.2.2.2.1, hs_.1.2.2.2.2.2.2.2.2.1, hs_.1.2.2.2.2.2.2.2.2.2, hs_.2⟩) (fun hs_ => ⟨hs_.1.2.2.2.1, hs_.1.2.2.2.2.1, hs_.1.2.2.2.2.2.1, hs_.1.2.2.2.2.2.2.1, hs_.1.2.2.2.2.2.2.2.1, hs_.1.2.2.2.2.2.2.2.2.1, hs_.1.2.2.2.2.2.2.2.2.2, hs_.2⟩)) (fun hn_ => ⟨(fR HO466 hn_), (fN HO470 hn_), (fK BK437 hn_), (fK BK438 hn_), (fK BK439 hn_), (fK BK467 hn_), (fK BK471 hn_), (fK BK497 hn_)⟩))) (below_size mZ))
  have HO482 := zM (Kd.V_lower (Kd.V_mono (ok' := fun k_ => nb k_ Ao35 t464.length co35 ∧ nb k_ Ao41 y468.length co41 ∧ k_ ≠ gb437 ∧ k_ ≠ gb438 ∧ k_ ≠ gb439 ∧ k_ ≠ gb467 ∧ k_ ≠ gb471 ∧ k_ ≠ gb497) ho1 (fun k_ hk_ => Or.elim hk_ (fun hs_ => Or.elim hs_ (fun hs_ => ⟨hs_.1.2.2.2.1, hs_.1.2.2.2.2.1, hs_.1.2.2.2.2.2.1, hs_.1.2.2.2.2.2.2.1, hs_.1.2.2.2.2.2.2.2.1, hs_.1.2.2.2.2.2.2.2.2.1, hs_.1.2.2.2.2.2.2.2.2.2, hs_.2⟩) (fun hs_ => ⟨hs_.1.2.2.2.1, hs_.1.2.2.2.2.1, hs_.1.2.2.2.2.2.1, hs_.1.2.2.2.2.2.2.1, hs_.1.2.2.2.2.2.2.2.1, hs_.1.2.2.2.2.2.2.2.2.1, hs_.1.2.2.2.2.2.2.2.2.2, hs_.2⟩)) (fun hn_ => ⟨(fR HO466 hn_), (fN HO470 hn_), (fK BK437 hn_), (fK BK438 hn_), (fK BK439 hn_), (fK BK467 hn_), (fK BK471 hn_), (fK BK497 hn_)⟩))) (below_size mZ))
  replace HO466 := zR HO466 hb
  replace HO470 := zN HO470 hb
  replace BK437 := zK BK437 hb
  replace BK438 := zK BK438 hb
  replace BK439 := zK BK439 hb
  replace BK467 := zK BK467 hb
  replace BK471 := zK BK471 hb
  replace BK497 := zK BK497 hb
  replace HB := zM (below_step mZ hb)
  (try clear hb)
  (try clear hb2)
  (try clear hk)
  (try clear hi)
  (try clear ho0)
  (try clear ho1)
  refine hK.out _ _ (zI7 BK437 (zJ7 BK438)) (fun hHeld => ?_)
  clear hK K
  refine norm_ (a' := ?_) ?_ ?_
  rotate_left
  ·show Act.put _ (some 31) _ = _
   simp only [Act.put, List.setIfInBounds_toArray, List.set_cons_zero, List.set_cons_succ, i64_w, i32_w]
   rfl
  refine one_ (i := 3) (N := some 33) #[true, true, true, true, false, false, true, false] rfl rfl (one_of HT_.out (by kernel_rfl)) (by decide) (fun K hK => ?_)
  refine goes_ Try.func16 (by kernel_rfl) rfl #[.agg #[.int .i64 t451, .string t452, .int .i64 t453, .int .i64 t454, .string t455, .slice Ao26 t456.length co26, .slice Ao27 t459.length co27], .int .i64 1] (by rfl) rfl rfl yb ?_
  with_reducible refine (columbariumlaw13_nots.calls k t451 t452 t453 t454 t455 (fun k_ => ((nb k_ Ao20 t445.length co20 ∧ (nb k_ Ao27 t459.length co27 ∧ (nb k_ Ao35 t464.length co35 ∧ (nb k_ Ao41 y468.length co41 ∧ (k_ ≠ gb437 ∧ (k_ ≠ gb438 ∧ (k_ ≠ gb439 ∧ (k_ ≠ gb467 ∧ k_ ≠ gb471)))))))) ∧ k_ ≠ gb497)) _ _ t456 (fun k_ => ((nb k_ Ao20 t445.length co20 ∧ (nb k_ Ao21 t448.length co21 ∧ (nb k_ Ao26 t456.length co26 ∧ (nb k_ Ao35 t464.length co35 ∧ (nb k_ Ao41 y468.length co41 ∧ (k_ ≠ gb437 ∧ (k_ ≠ gb438 ∧ (k_ ≠ gb439 ∧ (k_ ≠ gb467 ∧ k_ ≠ gb471))))))))) ∧ k_ ≠ gb497)) _ _ t459 1 t483 t484 t485 t486 t487 t488 t491 _ ?side1 ?side2 A10.out).mono ?_
  (case side1 => first | exact HO458.out | exact Kd.V_mono HO458.out (fun k_ hk_ => by grind))
  (case side2 => first | exact HO461.out | exact Kd.V_mono HO461.out (fun k_ hk_ => by grind))
  rintro e w52 ⟨v489, v492, rfl, ho0, ho1, hb⟩
  refine ⟨_, rfl, ?_⟩
  replace HO447 := zV HO447 hb
  replace HO450 := zV HO450 hb
  replace HO458 := zV HO458 hb
  replace HO461 := zV HO461 hb
  replace HO479 := zV HO479 hb
  replace HO482 := zV HO482 hb
  have HO490 := zM (Kd.V_lower (Kd.V_mono (ok' := fun k_ => nb k_ Ao35 t464.length co35 ∧ nb k_ Ao41 y468.length co41 ∧ k_ ≠ gb437 ∧ k_ ≠ gb438 ∧ k_ ≠ gb439 ∧ k_ ≠ gb467 ∧ k_ ≠ gb471 ∧ k_ ≠ gb497) ho0 (fun k_ hk_ => Or.elim hk_ (fun hs_ => Or.elim hs_ (fun hs_ => ⟨hs_.1.2.2.1, hs_.1.2.2.2.1, hs_.1.2.2.2.2.1, hs_.1.2.2.2.2.2.1, hs_.1.2.2.2.2.2.2.1, hs_.1.2.2.2.2.2.2.2.1, hs_.1.2.2.2.2.2.2.2.2, hs_.2⟩) (fun hs_ => ⟨hs_.1.2.2.2.1, hs_.1.2.2.2.2.1, hs_.1.2.2.2.2.2.1, hs_.1.2.2.2.2.2.2.1, hs_.1.2.2.2.2.2.2.2.1, hs_.1.2.2.2.2.2.2.2.2.1, hs_.1.2.2.2.2.2.2.2.2.2, hs_.2⟩)) (fun hn_ => ⟨(fR HO466 hn_), (fN HO470 hn_), (fK BK437 hn_), (fK BK438 hn_), (fK BK439 hn_), (fK BK467 hn_), (fK BK471 hn_), (fK BK497 hn_)⟩))) (below_size mZ))
  have HO493 := zM (Kd.V_lower (Kd.V_mono (ok' := fun k_ => nb k_ Ao35 t464.length co35 ∧ nb k_ Ao41 y468.length co41 ∧ k_ ≠ gb437 ∧ k_ ≠ gb438 ∧ k_ ≠ gb439 ∧ k_ ≠ gb467 ∧ k_ ≠ gb471 ∧ k_ ≠ gb497) ho1 (fun k_ hk_ => Or.elim hk_ (fun hs_ => Or.elim hs_ (fun hs_ => ⟨hs_.1.2.2.1, hs_.1.2.2.2.1, hs_.1.2.2.2.2.1, hs_.1.2.2.2.2.2.1, hs_.1.2.2.2.2.2.2.1, hs_.1.2.2.2.2.2.2.2.1, hs_.1.2.2.2.2.2.2.2.2, hs_.2⟩) (fun hs_ => ⟨hs_.1.2.2.2.1, hs_.1.2.2.2.2.1, hs_.1.2.2.2.2.2.1, hs_.1.2.2.2.2.2.2.1, hs_.1.2.2.2.2.2.2.2.1, hs_.1.2.2.2.2.2.2.2.2.1, hs_.1.2.2.2.2.2.2.2.2.2, hs_.2⟩)) (fun hn_ => ⟨(fR HO466 hn_), (fN HO470 hn_), (fK BK437 hn_), (fK BK438 hn_), (fK BK439 hn_), (fK BK467 hn_), (fK BK471 hn_), (fK BK497 hn_)⟩))) (below_size mZ))
  replace HO466 := zR HO466 hb
  replace HO470 := zN HO470 hb
  replace BK437 := zK BK437 hb
  replace BK438 := zK BK438 hb
  replace BK439 := zK BK439 hb
  replace BK467 := zK BK467 hb
  replace BK471 := zK BK471 hb
  replace BK497 := zK BK497 hb
  replace HB := zM (below_step mZ hb)
  (try clear hb)
  (try clear hb2)
  (try clear hk)
  (try clear hi)
  (try clear ho0)
  (try clear ho1)
  obtain ⟨Ao53, co53, eo53⟩ := Kd.V_slice HO479.out
  (first | subst eo53 | (injection eo53 with f1_ f2_ f3_; have f4_ := f1_.symm; have f5_ := f3_.symm; clear f1_ f2_ f3_; subst f4_; subst f5_))
  obtain ⟨Ao54, co54, eo54⟩ := Kd.V_slice HO482.out
  (first | subst eo54 | (injection eo54 with f1_ f2_ f3_; have f4_ := f1_.symm; have f5_ := f3_.symm; clear f1_ f2_ f3_; subst f4_; subst f5_))
  obtain ⟨Ao55, co55, eo55⟩ := Kd.V_slice HO490.out
  (first | subst eo55 | (injection eo55 with f1_ f2_ f3_; have f4_ := f1_.symm; have f5_ := f3_.symm; clear f1_ f2_ f3_; subst f4_; subst f5_))
  obtain ⟨Ao56, co56, eo56⟩ := Kd.V_slice HO493.out
  (first | subst eo56 | (injection eo56 with f1_ f2_ f3_; have f4_ := f1_.symm; have f5_ := f3_.symm; clear f1_ f2_ f3_; subst f4_; subst f5_))
  refine hK.out _ _ (zI7 BK437 (zJ7 BK438)) (fun hHeld => ?_)
  clear hK K
  refine norm_ (a' := ?_) ?_ ?_
  rotate_left
  ·show Act.put _ (some 33) _ = _
   simp only [Act.put, List.setIfInBounds_toArray, List.set_cons_zero, List.set_cons_succ, i64_w, i32_w]
   rfl
  refine one_ (i := 4) (N := some 34) #[true, true, true, true, true, false, true, false] rfl rfl (one_of HT_.out (by kernel_rfl)) (by decide) (fun K hK => ?_)
  refine Kd.N_lit_step k25 _ 25 ?hg (N' := 34) ?hd (xs := ([(⟨t472, t473, t474, t475, t476, t477, t480⟩ : S25), (⟨t483, t484, t485, t486, t487, t488, t491⟩ : S25)] : List (S25))) (inner := [.int .i64 t472, .string t473, .int .i64 t474, .int .i64 t475, .string t476, .slice Ao53 t477.length co53, .slice Ao54 t480.length co54, .int .i64 t483, .string t484, .int .i64 t485, .int .i64 t486, .string t487, .slice Ao55 t488.length co55, .slice Ao56 t491.length co56]) (ok := (fun k_ => nb k_ Ao35 t464.length co35 ∧ nb k_ Ao41 y468.length co41 ∧ k_ ≠ gb437 ∧ k_ ≠ gb438 ∧ k_ ≠ gb439 ∧ k_ ≠ gb467 ∧ k_ ≠ gb471 ∧ k_ ≠ gb497)) (okp := (fun k_ => nb k_ Ao35 t464.length co35 ∧ nb k_ Ao41 y468.length co41 ∧ k_ ≠ gb437 ∧ k_ ≠ gb438 ∧ k_ ≠ gb439 ∧ k_ ≠ gb467 ∧ k_ ≠ gb471 ∧ k_ ≠ gb497)) ?hr ?hp (fun _ hk => hk) ⟨fR HO466 (Nat.le_refl _), fN HO470 (Nat.le_refl _), fK BK437 (Nat.le_refl _), fK BK438 (Nat.le_refl _), fK BK439 (Nat.le_refl _), fK BK467 (Nat.le_refl _), fK BK471 (Nat.le_refl _), fK BK497 (Nat.le_refl _)⟩ (Below.refl _ _) (Nat.le_refl _) (by simp) ?_; (case hd => rfl); (case hg => rfl); (case hr => first | (go_simp; done) | (go_simp; rfl)); (case hp => exact (Reps.c7 (zF25 HO479 HO482) (Reps.c7 (zF25 HO490 HO493) (Reps.none _ _))))
  intro v495 w57 ho58 hb hg_ hnew_
  clear hg_ hnew_
  (first | rw [← Ny494.out] at ho58 | (simp only [Int.reduceToNat] at ho58; rw [← Ny494.out] at ho58))
  replace HO447 := zM (Kd.V_elder' (mV HO447.out) (by first | exact Kd.N_base ho58 | exact Kd.N_base (Kd.R_N ho58)) hb)
  replace HO450 := zM (Kd.V_elder' (mV HO450.out) (by first | exact Kd.N_base ho58 | exact Kd.N_base (Kd.R_N ho58)) hb)
  replace HO458 := zM (Kd.V_elder' (mV HO458.out) (by first | exact Kd.N_base ho58 | exact Kd.N_base (Kd.R_N ho58)) hb)
  replace HO461 := zM (Kd.V_elder' (mV HO461.out) (by first | exact Kd.N_base ho58 | exact Kd.N_base (Kd.R_N ho58)) hb)
  replace HO466 := zR HO466 hb
  replace HO470 := zM (Kd.N_elder' (mN HO470.out) (by first | exact Kd.N_base ho58 | exact Kd.N_base (Kd.R_N ho58)) hb)
  replace HO479 := zM (Kd.V_elder' (mV HO479.out) (by first | exact Kd.N_base ho58 | exact Kd.N_base (Kd.R_N ho58)) hb)
  replace HO482 := zM (Kd.V_elder' (mV HO482.out) (by first | exact Kd.N_base ho58 | exact Kd.N_base (Kd.R_N ho58)) hb)
  replace HO490 := zM (Kd.V_elder' (mV HO490.out) (by first | exact Kd.N_base ho58 | exact Kd.N_base (Kd.R_N ho58)) hb)
  replace HO493 := zM (Kd.V_elder' (mV HO493.out) (by first | exact Kd.N_base ho58 | exact Kd.N_base (Kd.R_N ho58)) hb)
  have HO496 := zM (Kd.N_lower ho58 (below_size mZ))
  replace BK437 := zK BK437 hb
  replace BK438 := zK BK438 hb
  replace BK439 := zK BK439 hb
  replace BK467 := zK BK467 hb
  replace BK471 := zK BK471 hb
  replace BK497 := zK BK497 hb
  replace HB := zM (below_step mZ hb)
  clear hb ho58
  obtain ⟨Ao59, co59, eo59⟩ := Kd.N_slice HO496.out
  (first | subst eo59 | (injection eo59 with f1_ f2_ f3_; have f4_ := f1_.symm; have f5_ := f3_.symm; clear f1_ f2_ f3_; subst f4_; subst f5_))
  refine hK.out _ _ (zI7 BK437 (zJ7 BK438)) (fun hHeld => ?_)
  clear hK K
  refine norm_ (a' := ?_) ?_ ?_
  rotate_left
  ·show Act.put _ (some 34) _ = _
   simp only [Act.put, List.setIfInBounds_toArray, List.set_cons_zero, List.set_cons_succ, i64_w, i32_w]
   rfl
  refine pure_ (i := 5) (N := some 35) (v := ?_) (a' := ?_) #[true, true, true, true, true, true, true, false] rfl rfl (any_of HT_.out (by kernel_rfl)) (fun _ _ _ h => h) (Or.inl ⟨by rfl, ?_⟩) ?_ ?_
  rotate_left
  ·intro w'
   go_simp
   with_reducible rfl
  rotate_left
  ·simp only [Act.put, List.setIfInBounds_toArray, List.set_cons_zero, List.set_cons_succ, i64_w, i32_w]
   rfl
  exact norm_ (by simp only [putAll, Act.put, List.setIfInBounds_toArray, List.set_cons_zero, List.set_cons_succ]) (hCont (.slice Ao53 t477.length co53, .slice Ao54 t480.length co54, .slice Ao55 t488.length co55, .slice Ao56 t491.length co56, .slice Ao59 y494.length co59, gb497) _ ⟨hHeld, (yV HO447 (fun _ hk => ⟨hk.1.1.1, ⟨hk.1.1.2.1, ⟨hk.1.1.2.2.1, ⟨hk.1.1.2.2.2.1, ⟨hk.1.1.2.2.2.2.1, ⟨hk.2, ⟨hk.1.1.2.2.2.2.2.1, ⟨hk.1.1.2.2.2.2.2.2.1, ⟨hk.1.1.2.2.2.2.2.2.2.1, ⟨hk.1.1.2.2.2.2.2.2.2.2.1, ⟨hk.1.1.2.2.2.2.2.2.2.2.2, hk.1.2⟩⟩⟩⟩⟩⟩⟩⟩⟩⟩⟩)), (yV HO450 (fun _ hk => ⟨hk.1.1.1, ⟨hk.1.1.2.1, ⟨hk.1.1.2.2.1, ⟨hk.1.1.2.2.2.1, ⟨hk.1.1.2.2.2.2.1, ⟨hk.2, ⟨hk.1.1.2.2.2.2.2.1, ⟨hk.1.1.2.2.2.2.2.2.1, ⟨hk.1.1.2.2.2.2.2.2.2.1, ⟨hk.1.1.2.2.2.2.2.2.2.2.1, ⟨hk.1.1.2.2.2.2.2.2.2.2.2, hk.1.2⟩⟩⟩⟩⟩⟩⟩⟩⟩⟩⟩)), (yV HO458 (fun _ hk => ⟨hk.1.1.1, ⟨hk.1.1.2.1, ⟨hk.1.1.2.2.1, ⟨hk.1.1.2.2.2.1, ⟨hk.2, ⟨hk.1.1.2.2.2.2.1, ⟨hk.1.1.2.2.2.2.2.1, ⟨hk.1.1.2.2.2.2.2.2.1, ⟨hk.1.1.2.2.2.2.2.2.2.1, ⟨hk.1.1.2.2.2.2.2.2.2.2, hk.1.2⟩⟩⟩⟩⟩⟩⟩⟩⟩⟩)), (yV HO461 (fun _ hk => ⟨hk.1.1.1, ⟨hk.1.1.2.1, ⟨hk.1.1.2.2.1, ⟨hk.1.1.2.2.2.1, ⟨hk.1.1.2.2.2.2.1, ⟨hk.2, ⟨hk.1.1.2.2.2.2.2.1, ⟨hk.1.1.2.2.2.2.2.2.1, ⟨hk.1.1.2.2.2.2.2.2.2.1, ⟨hk.1.1.2.2.2.2.2.2.2.2.1, ⟨hk.1.1.2.2.2.2.2.2.2.2.2, hk.1.2⟩⟩⟩⟩⟩⟩⟩⟩⟩⟩⟩)), (mR HO466.out), (yN HO470 (fun _ hk => ⟨hk.1.1.1, ⟨hk.2, ⟨hk.1.1.2.1, ⟨hk.1.1.2.2.1, ⟨hk.1.1.2.2.2.1, ⟨hk.1.1.2.2.2.2.1, ⟨hk.1.1.2.2.2.2.2, hk.1.2⟩⟩⟩⟩⟩⟩⟩)), (yV HO479 (fun _ hk => ⟨hk.1.1, ⟨hk.1.2.1, ⟨hk.2, ⟨hk.1.2.2.1, ⟨hk.1.2.2.2.1, ⟨hk.1.2.2.2.2.1, ⟨hk.1.2.2.2.2.2.1, ⟨hk.1.2.2.2.2.2.2.1, hk.1.2.2.2.2.2.2.2⟩⟩⟩⟩⟩⟩⟩⟩)), (yV HO482 (fun _ hk => ⟨hk.1.1, ⟨hk.1.2.1, ⟨hk.2, ⟨hk.1.2.2.1, ⟨hk.1.2.2.2.1, ⟨hk.1.2.2.2.2.1, ⟨hk.1.2.2.2.2.2.1, ⟨hk.1.2.2.2.2.2.2.1, hk.1.2.2.2.2.2.2.2⟩⟩⟩⟩⟩⟩⟩⟩)), (yV HO490 (fun _ hk => ⟨hk.1.1, ⟨hk.1.2.1, ⟨hk.2, ⟨hk.1.2.2.1, ⟨hk.1.2.2.2.1, ⟨hk.1.2.2.2.2.1, ⟨hk.1.2.2.2.2.2.1, ⟨hk.1.2.2.2.2.2.2.1, hk.1.2.2.2.2.2.2.2⟩⟩⟩⟩⟩⟩⟩⟩)), (yV HO493 (fun _ hk => ⟨hk.1.1, ⟨hk.1.2.1, ⟨hk.2, ⟨hk.1.2.2.1, ⟨hk.1.2.2.2.1, ⟨hk.1.2.2.2.2.1, ⟨hk.1.2.2.2.2.2.1, ⟨hk.1.2.2.2.2.2.2.1, hk.1.2.2.2.2.2.2.2⟩⟩⟩⟩⟩⟩⟩⟩)), (mN HO496.out), (mK BK437.out), (mK BK438.out), (mK BK439.out), (mK BK467.out), (mK BK471.out), (mK BK497.out), GW497.out, GE497.out, NB437_497.out, NB497_437.out, NB438_497.out, NB497_438.out, NB439_497.out, NB497_439.out, NB467_497.out, NB497_467.out, NB471_497.out, NB497_471.out, mZ⟩)
 rintro ⟨v478, v481, v489, v492, v495, gb497⟩ w60 ⟨hS_, h0_, h1_, h2_, h3_, h4_, h5_, h6_, h7_, h8_, h9_, h10_, h11_, h12_, h13_, h14_, h15_, h16_, h17_, h18_, h19_, h20_, h21_, h22_, h23_, h24_, h25_, h26_, h27_, h28_, h29_⟩
 have n0_ : Aside0 (Kd.V Kd.string 9 w60 w.heap.size (fun k_ => nb k_ Ao21 t448.length co21 ∧ nb k_ Ao26 t456.length co26 ∧ nb k_ Ao27 t459.length co27 ∧ nb k_ Ao35 t464.length co35 ∧ nb k_ Ao41 y468.length co41 ∧ some k_ ≠ (v495 : Value).ownBlock ∧ k_ ≠ gb437 ∧ k_ ≠ gb438 ∧ k_ ≠ gb439 ∧ k_ ≠ gb467 ∧ k_ ≠ gb471 ∧ k_ ≠ gb497) (.slice Ao20 t445.length co20) t445) := ⟨h0_⟩
 have n1_ : Aside0 (Kd.V k25 25 w60 w.heap.size (fun k_ => nb k_ Ao20 t445.length co20 ∧ nb k_ Ao26 t456.length co26 ∧ nb k_ Ao27 t459.length co27 ∧ nb k_ Ao35 t464.length co35 ∧ nb k_ Ao41 y468.length co41 ∧ some k_ ≠ (v495 : Value).ownBlock ∧ k_ ≠ gb437 ∧ k_ ≠ gb438 ∧ k_ ≠ gb439 ∧ k_ ≠ gb467 ∧ k_ ≠ gb471 ∧ k_ ≠ gb497) (.slice Ao21 t448.length co21) t448) := ⟨h1_⟩
 have n2_ : Aside0 (Kd.V Kd.string 9 w60 w.heap.size (fun k_ => nb k_ Ao20 t445.length co20 ∧ nb k_ Ao27 t459.length co27 ∧ nb k_ Ao35 t464.length co35 ∧ nb k_ Ao41 y468.length co41 ∧ some k_ ≠ (v495 : Value).ownBlock ∧ k_ ≠ gb437 ∧ k_ ≠ gb438 ∧ k_ ≠ gb439 ∧ k_ ≠ gb467 ∧ k_ ≠ gb471 ∧ k_ ≠ gb497) (.slice Ao26 t456.length co26) t456) := ⟨h2_⟩
 have n3_ : Aside0 (Kd.V k25 25 w60 w.heap.size (fun k_ => nb k_ Ao20 t445.length co20 ∧ nb k_ Ao21 t448.length co21 ∧ nb k_ Ao26 t456.length co26 ∧ nb k_ Ao35 t464.length co35 ∧ nb k_ Ao41 y468.length co41 ∧ some k_ ≠ (v495 : Value).ownBlock ∧ k_ ≠ gb437 ∧ k_ ≠ gb438 ∧ k_ ≠ gb439 ∧ k_ ≠ gb467 ∧ k_ ≠ gb471 ∧ k_ ≠ gb497) (.slice Ao27 t459.length co27) t459) := ⟨h3_⟩
 have n4_ : Aside0 (Kd.R k52 52 w60 w.heap.size (fun _ => True) (.slice Ao35 t464.length co35) t464) := ⟨h4_⟩
 have n5_ : Aside0 (Kd.N k25 25 w60 w.heap.size (fun k_ => nb k_ Ao35 t464.length co35 ∧ some k_ ≠ (v495 : Value).ownBlock ∧ k_ ≠ gb437 ∧ k_ ≠ gb438 ∧ k_ ≠ gb439 ∧ k_ ≠ gb467 ∧ k_ ≠ gb471 ∧ k_ ≠ gb497) (.slice Ao41 y468.length co41) y468) := ⟨h5_⟩
 have n6_ : Aside0 (Kd.V Kd.string 9 w60 w.heap.size (fun k_ => nb k_ Ao35 t464.length co35 ∧ nb k_ Ao41 y468.length co41 ∧ some k_ ≠ (v495 : Value).ownBlock ∧ k_ ≠ gb437 ∧ k_ ≠ gb438 ∧ k_ ≠ gb439 ∧ k_ ≠ gb467 ∧ k_ ≠ gb471 ∧ k_ ≠ gb497) v478 t477) := ⟨h6_⟩
 have n7_ : Aside0 (Kd.V k25 25 w60 w.heap.size (fun k_ => nb k_ Ao35 t464.length co35 ∧ nb k_ Ao41 y468.length co41 ∧ some k_ ≠ (v495 : Value).ownBlock ∧ k_ ≠ gb437 ∧ k_ ≠ gb438 ∧ k_ ≠ gb439 ∧ k_ ≠ gb467 ∧ k_ ≠ gb471 ∧ k_ ≠ gb497) v481 t480) := ⟨h7_⟩
 have n8_ : Aside0 (Kd.V Kd.string 9 w60 w.heap.size (fun k_ => nb k_ Ao35 t464.length co35 ∧ nb k_ Ao41 y468.length co41 ∧ some k_ ≠ (v495 : Value).ownBlock ∧ k_ ≠ gb437 ∧ k_ ≠ gb438 ∧ k_ ≠ gb439 ∧ k_ ≠ gb467 ∧ k_ ≠ gb471 ∧ k_ ≠ gb497) v489 t488) := ⟨h8_⟩
 have n9_ : Aside0 (Kd.V k25 25 w60 w.heap.size (fun k_ => nb k_ Ao35 t464.length co35 ∧ nb k_ Ao41 y468.length co41 ∧ some k_ ≠ (v495 : Value).ownBlock ∧ k_ ≠ gb437 ∧ k_ ≠ gb438 ∧ k_ ≠ gb439 ∧ k_ ≠ gb467 ∧ k_ ≠ gb471 ∧ k_ ≠ gb497) v492 t491) := ⟨h9_⟩
 have n10_ : Aside0 (Kd.N k25 25 w60 w.heap.size (fun k_ => nb k_ Ao35 t464.length co35 ∧ nb k_ Ao41 y468.length co41 ∧ k_ ≠ gb437 ∧ k_ ≠ gb438 ∧ k_ ≠ gb439 ∧ k_ ≠ gb467 ∧ k_ ≠ gb471 ∧ k_ ≠ gb497) v495 y494) := ⟨h10_⟩
 have n11_ : Aside0 (w60.heap[gb437]? = some (.cells #[.int .i64 t440, .string t441, .int .i64 t442, .int .i64 t443, .string t444, .slice Ao20 t445.length co20, .slice Ao21 t448.length co21] 25 (0, 0))) := ⟨h11_⟩
 have n12_ : Aside0 (w60.heap[gb438]? = some (.cells #[.int .i64 t451, .string t452, .int .i64 t453, .int .i64 t454, .string t455, .slice Ao26 t456.length co26, .slice Ao27 t459.length co27] 25 (0, 0))) := ⟨h12_⟩
 have n13_ : Aside0 (w60.heap[gb439]? = some (.cells #[.int .i64 a2_0, .int .i64 a2_1, .slice A2_2 l2_2.length c2_2] 36 (0, 0))) := ⟨h13_⟩
 have n14_ : Aside0 (w60.heap[gb467]? = some (.cells #[.int .i64 t462, .int .i64 t463, .slice Ao35 t464.length co35] 36 (0, 0))) := ⟨h14_⟩
 have n15_ : Aside0 (w60.heap[gb471]? = some (.cells #[.int .i64 1, .string (⟨#[]⟩ : ByteArray), .int .i64 0, .int .i64 0, .string (⟨#[]⟩ : ByteArray), .slice none 0 0, .slice Ao41 y468.length co41] 25 (0, 0))) := ⟨h15_⟩
 have n16_ : Aside0 (w60.heap[gb497]? = some (.cells #[.int .i64 0, .string (⟨#[]⟩ : ByteArray), .int .i64 0, .int .i64 0, .string (⟨#[]⟩ : ByteArray), .slice none 0 0, .slice none 0 0] 25 (0, 0))) := ⟨h16_⟩
 have n17_ : Aside0 (w.heap.size ≤ gb497) := ⟨h17_⟩
 have n18_ : Aside0 (w.heap.size ≤ gb497) := ⟨h18_⟩
 have n19_ : Aside0 (gb437 ≠ gb497) := ⟨h19_⟩
 have n20_ : Aside0 (gb497 ≠ gb437) := ⟨h20_⟩
 have n21_ : Aside0 (gb438 ≠ gb497) := ⟨h21_⟩
 have n22_ : Aside0 (gb497 ≠ gb438) := ⟨h22_⟩
 have n23_ : Aside0 (gb439 ≠ gb497) := ⟨h23_⟩
 have n24_ : Aside0 (gb497 ≠ gb439) := ⟨h24_⟩
 have n25_ : Aside0 (gb467 ≠ gb497) := ⟨h25_⟩
 have n26_ : Aside0 (gb497 ≠ gb467) := ⟨h26_⟩
 have n27_ : Aside0 (gb471 ≠ gb497) := ⟨h27_⟩
 have n28_ : Aside0 (gb497 ≠ gb471) := ⟨h28_⟩
 have n29_ : Aside0 (Below w.heap.size w w60) := ⟨h29_⟩
 clear HO447
 clear HO450
 clear HO458
 clear HO461
 clear HO466
 clear HO470
 clear BK437
 clear BK438
 clear BK439
 clear BK467
 clear BK471
 clear HB
 clear h0_ h1_ h2_ h3_ h4_ h5_ h6_ h7_ h8_ h9_ h10_ h11_ h12_ h13_ h14_ h15_ h16_ h17_ h18_ h19_ h20_ h21_ h22_ h23_ h24_ h25_ h26_ h27_ h28_ h29_
 have HO447 := n0_
 have HO450 := n1_
 have HO458 := n2_
 have HO461 := n3_
 have HO466 := n4_
 have HO470 := n5_
 have HO479 := n6_
 have HO482 := n7_
 have HO490 := n8_
 have HO493 := n9_
 have HO496 := n10_
 have BK437 := n11_
 have BK438 := n12_
 have BK439 := n13_
 have BK467 := n14_
 have BK471 := n15_
 have BK497 := n16_
 have GW497 := n17_
 have GE497 := n18_
 have NB437_497 := n19_
 have NB497_437 := n20_
 have NB438_497 := n21_
 have NB497_438 := n22_
 have NB439_497 := n23_
 have NB497_439 := n24_
 have NB467_497 := n25_
 have NB497_467 := n26_
 have NB471_497 := n27_
 have NB497_471 := n28_
 have HB := n29_
 clear n0_ n1_ n2_ n3_ n4_ n5_ n6_ n7_ n8_ n9_ n10_ n11_ n12_ n13_ n14_ n15_ n16_ n17_ n18_ n19_ n20_ n21_ n22_ n23_ n24_ n25_ n26_ n27_ n28_ n29_
 have hHeld : w60.cell? ⟨gb437, 0, none⟩ = some (.int .i64 t440) ∧ w60.cell? ⟨gb437, 1, none⟩ = some (.string t441) ∧ w60.cell? ⟨gb437, 2, none⟩ = some (.int .i64 t442) ∧ w60.cell? ⟨gb437, 3, none⟩ = some (.int .i64 t443) ∧ w60.cell? ⟨gb437, 4, none⟩ = some (.string t444) ∧ w60.cell? ⟨gb437, 5, none⟩ = some (.slice Ao20 t445.length co20) ∧ w60.cell? ⟨gb437, 6, none⟩ = some (.slice Ao21 t448.length co21) ∧ w60.cell? ⟨gb438, 0, none⟩ = some (.int .i64 t451) ∧ w60.cell? ⟨gb438, 1, none⟩ = some (.string t452) ∧ w60.cell? ⟨gb438, 2, none⟩ = some (.int .i64 t453) ∧ w60.cell? ⟨gb438, 3, none⟩ = some (.int .i64 t454) ∧ w60.cell? ⟨gb438, 4, none⟩ = some (.string t455) ∧ w60.cell? ⟨gb438, 5, none⟩ = some (.slice Ao26 t456.length co26) ∧ w60.cell? ⟨gb438, 6, none⟩ = some (.slice Ao27 t459.length co27) := hS_
 obtain ⟨Ao61, co61, eo61⟩ := Kd.N_slice HO496.out
 (first | subst eo61 | (injection eo61 with f1_ f2_ f3_; have f4_ := f1_.symm; have f5_ := f3_.symm; clear f1_ f2_ f3_; subst f4_; subst f5_))
 refine norm_ (a' := ?_) ?_ ?_
 rotate_left
 ·simp only [putAll, Act.put, List.setIfInBounds_toArray, List.set_cons_zero, List.set_cons_succ]
  rfl
 refine one_ (i := 7) (N := none) #[true, true, true, true, true, true, true, true] rfl rfl (one_of HT_.out (by kernel_rfl)) (by decide) (fun K hK => ?_)
 have hs62 : w60.cell? ⟨gb497, 0, none⟩ = some (.int .i64 0) := (blk_cell BK497.out 0).trans rfl
 have hfs62 := blk_frozen BK497.out 0
 have hns62_0 := NB437_497.out
 have hns62_1 := NB438_497.out
 have hns62_2 := NB439_497.out
 have hns62_3 := NB467_497.out
 have hns62_4 := NB471_497.out
 have hms62_0 := NB497_437.out
 have hms62_1 := NB497_438.out
 have hms62_2 := NB497_439.out
 have hms62_3 := NB497_467.out
 have hms62_4 := NB497_471.out
 have hs63 : w60.cell? ⟨gb497, 1, none⟩ = some (.string (⟨#[]⟩ : ByteArray)) := (blk_cell BK497.out 1).trans rfl
 have hfs63 := blk_frozen BK497.out 1
 have hns63_0 := NB437_497.out
 have hns63_1 := NB438_497.out
 have hns63_2 := NB439_497.out
 have hns63_3 := NB467_497.out
 have hns63_4 := NB471_497.out
 have hms63_0 := NB497_437.out
 have hms63_1 := NB497_438.out
 have hms63_2 := NB497_439.out
 have hms63_3 := NB497_467.out
 have hms63_4 := NB497_471.out
 have hs64 : w60.cell? ⟨gb497, 2, none⟩ = some (.int .i64 0) := (blk_cell BK497.out 2).trans rfl
 have hfs64 := blk_frozen BK497.out 2
 have hns64_0 := NB437_497.out
 have hns64_1 := NB438_497.out
 have hns64_2 := NB439_497.out
 have hns64_3 := NB467_497.out
 have hns64_4 := NB471_497.out
 have hms64_0 := NB497_437.out
 have hms64_1 := NB497_438.out
 have hms64_2 := NB497_439.out
 have hms64_3 := NB497_467.out
 have hms64_4 := NB497_471.out
 have hs65 : w60.cell? ⟨gb497, 3, none⟩ = some (.int .i64 0) := (blk_cell BK497.out 3).trans rfl
 have hfs65 := blk_frozen BK497.out 3
 have hns65_0 := NB437_497.out
 have hns65_1 := NB438_497.out
 have hns65_2 := NB439_497.out
 have hns65_3 := NB467_497.out
 have hns65_4 := NB471_497.out
 have hms65_0 := NB497_437.out
 have hms65_1 := NB497_438.out
 have hms65_2 := NB497_439.out
 have hms65_3 := NB497_467.out
 have hms65_4 := NB497_471.out
 have hs66 : w60.cell? ⟨gb497, 4, none⟩ = some (.string (⟨#[]⟩ : ByteArray)) := (blk_cell BK497.out 4).trans rfl
 have hfs66 := blk_frozen BK497.out 4
 have hns66_0 := NB437_497.out
 have hns66_1 := NB438_497.out
 have hns66_2 := NB439_497.out
 have hns66_3 := NB467_497.out
 have hns66_4 := NB471_497.out
 have hms66_0 := NB497_437.out
 have hms66_1 := NB497_438.out
 have hms66_2 := NB497_439.out
 have hms66_3 := NB497_467.out
 have hms66_4 := NB497_471.out
 have hs67 : w60.cell? ⟨gb497, 5, none⟩ = some (.slice none 0 0) := (blk_cell BK497.out 5).trans rfl
 have hfs67 := blk_frozen BK497.out 5
 have hns67_0 := NB437_497.out
 have hns67_1 := NB438_497.out
 have hns67_2 := NB439_497.out
 have hns67_3 := NB467_497.out
 have hns67_4 := NB471_497.out
 have hms67_0 := NB497_437.out
 have hms67_1 := NB497_438.out
 have hms67_2 := NB497_439.out
 have hms67_3 := NB497_467.out
 have hms67_4 := NB497_471.out
 have hs68 : w60.cell? ⟨gb497, 6, none⟩ = some (.slice none 0 0) := (blk_cell BK497.out 6).trans rfl
 have hfs68 := blk_frozen BK497.out 6
 have hns68_0 := NB437_497.out
 have hns68_1 := NB438_497.out
 have hns68_2 := NB439_497.out
 have hns68_3 := NB467_497.out
 have hns68_4 := NB471_497.out
 have hms68_0 := NB497_437.out
 have hms68_1 := NB497_438.out
 have hms68_2 := NB497_439.out
 have hms68_3 := NB497_467.out
 have hms68_4 := NB497_471.out
 refine skip_ (w1 := ?_) (by rfl) rfl ?_ ?_
 rotate_left
 ·go_simp
  rfl
 refine hK.out _ _ ⟨(zE7 NB437_497 hHeld.1), (zE7 NB437_497 hHeld.2.1), (zE7 NB437_497 hHeld.2.2.1), (zE7 NB437_497 hHeld.2.2.2.1), (zE7 NB437_497 hHeld.2.2.2.2.1), (zE7 NB437_497 hHeld.2.2.2.2.2.1), (zE7 NB437_497 hHeld.2.2.2.2.2.2.1), (zE7 NB438_497 hHeld.2.2.2.2.2.2.2.1), (zE7 NB438_497 hHeld.2.2.2.2.2.2.2.2.1), (zE7 NB438_497 hHeld.2.2.2.2.2.2.2.2.2.1), (zE7 NB438_497 hHeld.2.2.2.2.2.2.2.2.2.2.1), (zE7 NB438_497 hHeld.2.2.2.2.2.2.2.2.2.2.2.1), (zE7 NB438_497 hHeld.2.2.2.2.2.2.2.2.2.2.2.2.1), (zE7 NB438_497 hHeld.2.2.2.2.2.2.2.2.2.2.2.2.2)⟩ (fun hHeld => ?_)
 clear hK K
 refine done_ (done_of HT_.out (by kernel_rfl)) ?_
 go_upto_region 6 with (fail)
 go_cut [57] (fun v57 wc => ∃ (kq : Nat) (x57_10 : Bool), v57 = .bool x57_10 ∧ Aside0 (columbariumlaw13_PredPairs.j0 kq a3 a4 x57_10 t462 t463 t464 = some r) ∧ Aside0 (kq ≤ k) ∧ Aside0 (Kd.V Kd.string 9 wc w.heap.size (fun k_ => nb k_ Ao35 t464.length co35 ∧ nb k_ Ao41 y468.length co41 ∧ nb k_ Ao61 y494.length co61 ∧ k_ ≠ gb437 ∧ k_ ≠ gb438 ∧ k_ ≠ gb439 ∧ k_ ≠ gb467 ∧ k_ ≠ gb471 ∧ k_ ≠ gb497) (.slice Ao20 t445.length co20) t445) ∧ Aside0 (Kd.V k25 25 wc w.heap.size (fun k_ => nb k_ Ao35 t464.length co35 ∧ nb k_ Ao41 y468.length co41 ∧ nb k_ Ao61 y494.length co61 ∧ k_ ≠ gb437 ∧ k_ ≠ gb438 ∧ k_ ≠ gb439 ∧ k_ ≠ gb467 ∧ k_ ≠ gb471 ∧ k_ ≠ gb497) (.slice Ao21 t448.length co21) t448) ∧ Aside0 (Kd.V Kd.string 9 wc w.heap.size (fun k_ => nb k_ Ao35 t464.length co35 ∧ nb k_ Ao41 y468.length co41 ∧ nb k_ Ao61 y494.length co61 ∧ k_ ≠ gb437 ∧ k_ ≠ gb438 ∧ k_ ≠ gb439 ∧ k_ ≠ gb467 ∧ k_ ≠ gb471 ∧ k_ ≠ gb497) (.slice Ao26 t456.length co26) t456) ∧ Aside0 (Kd.V k25 25 wc w.heap.size (fun k_ => nb k_ Ao35 t464.length co35 ∧ nb k_ Ao41 y468.length co41 ∧ nb k_ Ao61 y494.length co61 ∧ k_ ≠ gb437 ∧ k_ ≠ gb438 ∧ k_ ≠ gb439 ∧ k_ ≠ gb467 ∧ k_ ≠ gb471 ∧ k_ ≠ gb497) (.slice Ao27 t459.length co27) t459) ∧ Aside0 (Kd.R k52 52 wc w.heap.size (fun _ => True) (.slice Ao35 t464.length co35) t464) ∧ Aside0 (Kd.N k25 25 wc w.heap.size (fun k_ => nb k_ Ao35 t464.length co35 ∧ nb k_ Ao61 y494.length co61 ∧ k_ ≠ gb437 ∧ k_ ≠ gb438 ∧ k_ ≠ gb439 ∧ k_ ≠ gb467 ∧ k_ ≠ gb471 ∧ k_ ≠ gb497) (.slice Ao41 y468.length co41) y468) ∧ Aside0 (Kd.N k25 25 wc w.heap.size (fun k_ => nb k_ Ao35 t464.length co35 ∧ nb k_ Ao41 y468.length co41 ∧ k_ ≠ gb437 ∧ k_ ≠ gb438 ∧ k_ ≠ gb439 ∧ k_ ≠ gb467 ∧ k_ ≠ gb471 ∧ k_ ≠ gb497) (.slice Ao61 y494.length co61) y494) ∧ Aside0 (wc.heap[gb437]? = some (.cells #[.int .i64 t440, .string t441, .int .i64 t442, .int .i64 t443, .string t444, (.slice Ao20 t445.length co20), (.slice Ao21 t448.length co21)] 25 (0, 0))) ∧ Aside0 (wc.heap[gb438]? = some (.cells #[.int .i64 t451, .string t452, .int .i64 t453, .int .i64 t454, .string t455, (.slice Ao26 t456.length co26), (.slice Ao27 t459.length co27)] 25 (0, 0))) ∧ Aside0 (wc.heap[gb439]? = some (.cells #[.int .i64 a2_0, .int .i64 a2_1, (.slice A2_2 l2_2.length c2_2)] 36 (0, 0))) ∧ Aside0 (wc.heap[gb467]? = some (.cells #[.int .i64 t462, .int .i64 t463, (.slice Ao35 t464.length co35)] 36 (0, 0))) ∧ Aside0 (wc.heap[gb471]? = some (.cells #[.int .i64 1, .string (⟨#[]⟩ : ByteArray), .int .i64 0, .int .i64 0, .string (⟨#[]⟩ : ByteArray), (.slice none 0 0), (.slice Ao41 y468.length co41)] 25 (0, 0))) ∧ Aside0 (wc.heap[gb497]? = some (.cells #[.int .i64 2, .string (⟨#[]⟩ : ByteArray), .int .i64 0, .int .i64 0, .string (⟨#[]⟩ : ByteArray), (.slice none 0 0), (.slice Ao61 y494.length co61)] 25 (0, 0))) ∧ Aside0 (Below w.heap.size w wc))
 case first =>
  have H := HC11.out
  clear HC11
  replace H := Option.bind_eq_some_iff.mp H
  obtain ⟨⟨t498, t499, t500, t501, t502, t503, t506⟩, A690, H⟩ := H
  try dsimp only at H
  have A69 := zM A690
  clear A690
  replace H := Option.bind_eq_some_iff.mp H
  obtain ⟨t509, A700, H⟩ := H
  try dsimp only at H
  have A70 := zM A700
  clear A700
  replace H := Option.bind_eq_some_iff.mp H
  obtain ⟨t510, A710, H⟩ := H
  try dsimp only at H
  have A71 := zM A710
  clear A710
  by_cases c72 : (t509 != t510) = true
  ·rw [if_pos c72] at H
   have c72b0 : (t509 != t510) = true := c72
   (try (have c72b1 : decide (t509 = t510) = false := by simpa using c72))
   (try (have c72b2 : (t509 == t510) = false := by simpa using c72))
   (try (have c72b3 : ¬ (t509 = t510) := by simpa using c72))
   clear c72
   (first | rw [c72b0] | rw [c72b1] | (simp only [i64_w, i32_w]; rw [c72b0]) | skip)
   have H' := Aside0.mk H
   clear H
   try go_wp2
   generalize hq_ : (((((((w60.setCell ⟨gb497, 0, none⟩ (.int .i64 2)).setCell ⟨gb497, 1, none⟩ (.string (⟨#[]⟩ : ByteArray))).setCell ⟨gb497, 2, none⟩ (.int .i64 0)).setCell ⟨gb497, 3, none⟩ (.int .i64 0)).setCell ⟨gb497, 4, none⟩ (.string (⟨#[]⟩ : ByteArray))).setCell ⟨gb497, 5, none⟩ (.slice none 0 0)).setCell ⟨gb497, 6, none⟩ (.slice Ao61 y494.length co61)) = w73
   replace HO447 := zqV7 (ok' := fun k_ => nb k_ Ao21 t448.length co21 ∧ nb k_ Ao26 t456.length co26 ∧ nb k_ Ao27 t459.length co27 ∧ nb k_ Ao35 t464.length co35 ∧ nb k_ Ao41 y468.length co41 ∧ nb k_ Ao61 y494.length co61 ∧ k_ ≠ gb437 ∧ k_ ≠ gb438 ∧ k_ ≠ gb439 ∧ k_ ≠ gb467 ∧ k_ ≠ gb471 ∧ k_ ≠ gb497) hq_ HO447 (fun _ hk => hk.2.2.2.2.2.2.2.2.2.2.2) (fun _ hk => ⟨hk.1.1, ⟨hk.1.2.1, ⟨hk.1.2.2.1, ⟨hk.1.2.2.2.1, ⟨hk.1.2.2.2.2.1, ⟨hk.1.2.2.2.2.2.1, ⟨hk.1.2.2.2.2.2.2.1, ⟨hk.1.2.2.2.2.2.2.2.1, ⟨hk.1.2.2.2.2.2.2.2.2.1, ⟨hk.1.2.2.2.2.2.2.2.2.2.1, ⟨hk.1.2.2.2.2.2.2.2.2.2.2.1, hk.1.2.2.2.2.2.2.2.2.2.2.2⟩⟩⟩⟩⟩⟩⟩⟩⟩⟩⟩)
   replace HO450 := zqV7 (ok' := fun k_ => nb k_ Ao20 t445.length co20 ∧ nb k_ Ao26 t456.length co26 ∧ nb k_ Ao27 t459.length co27 ∧ nb k_ Ao35 t464.length co35 ∧ nb k_ Ao41 y468.length co41 ∧ nb k_ Ao61 y494.length co61 ∧ k_ ≠ gb437 ∧ k_ ≠ gb438 ∧ k_ ≠ gb439 ∧ k_ ≠ gb467 ∧ k_ ≠ gb471 ∧ k_ ≠ gb497) hq_ HO450 (fun _ hk => hk.2.2.2.2.2.2.2.2.2.2.2) (fun _ hk => ⟨hk.1.1, ⟨hk.1.2.1, ⟨hk.1.2.2.1, ⟨hk.1.2.2.2.1, ⟨hk.1.2.2.2.2.1, ⟨hk.1.2.2.2.2.2.1, ⟨hk.1.2.2.2.2.2.2.1, ⟨hk.1.2.2.2.2.2.2.2.1, ⟨hk.1.2.2.2.2.2.2.2.2.1, ⟨hk.1.2.2.2.2.2.2.2.2.2.1, ⟨hk.1.2.2.2.2.2.2.2.2.2.2.1, hk.1.2.2.2.2.2.2.2.2.2.2.2⟩⟩⟩⟩⟩⟩⟩⟩⟩⟩⟩)
   replace HO458 := zqV7 (ok' := fun k_ => nb k_ Ao20 t445.length co20 ∧ nb k_ Ao27 t459.length co27 ∧ nb k_ Ao35 t464.length co35 ∧ nb k_ Ao41 y468.length co41 ∧ nb k_ Ao61 y494.length co61 ∧ k_ ≠ gb437 ∧ k_ ≠ gb438 ∧ k_ ≠ gb439 ∧ k_ ≠ gb467 ∧ k_ ≠ gb471 ∧ k_ ≠ gb497) hq_ HO458 (fun _ hk => hk.2.2.2.2.2.2.2.2.2.2) (fun _ hk => ⟨hk.1.1, ⟨hk.1.2.1, ⟨hk.1.2.2.1, ⟨hk.1.2.2.2.1, ⟨hk.1.2.2.2.2.1, ⟨hk.1.2.2.2.2.2.1, ⟨hk.1.2.2.2.2.2.2.1, ⟨hk.1.2.2.2.2.2.2.2.1, ⟨hk.1.2.2.2.2.2.2.2.2.1, ⟨hk.1.2.2.2.2.2.2.2.2.2.1, hk.1.2.2.2.2.2.2.2.2.2.2⟩⟩⟩⟩⟩⟩⟩⟩⟩⟩)
   replace HO461 := zqV7 (ok' := fun k_ => nb k_ Ao20 t445.length co20 ∧ nb k_ Ao21 t448.length co21 ∧ nb k_ Ao26 t456.length co26 ∧ nb k_ Ao35 t464.length co35 ∧ nb k_ Ao41 y468.length co41 ∧ nb k_ Ao61 y494.length co61 ∧ k_ ≠ gb437 ∧ k_ ≠ gb438 ∧ k_ ≠ gb439 ∧ k_ ≠ gb467 ∧ k_ ≠ gb471 ∧ k_ ≠ gb497) hq_ HO461 (fun _ hk => hk.2.2.2.2.2.2.2.2.2.2.2) (fun _ hk => ⟨hk.1.1, ⟨hk.1.2.1, ⟨hk.1.2.2.1, ⟨hk.1.2.2.2.1, ⟨hk.1.2.2.2.2.1, ⟨hk.1.2.2.2.2.2.1, ⟨hk.1.2.2.2.2.2.2.1, ⟨hk.1.2.2.2.2.2.2.2.1, ⟨hk.1.2.2.2.2.2.2.2.2.1, ⟨hk.1.2.2.2.2.2.2.2.2.2.1, ⟨hk.1.2.2.2.2.2.2.2.2.2.2.1, hk.1.2.2.2.2.2.2.2.2.2.2.2⟩⟩⟩⟩⟩⟩⟩⟩⟩⟩⟩)
   replace HO466 : Aside0 (Kd.R k52 52 w73 w.heap.size (fun _ => True) (.slice Ao35 t464.length co35) t464) := ⟨by subst hq_; (with_reducible repeat (first | apply Kd.R_alloc | apply Kd.R_drewN | apply Kd.R_drew)); exact Kd.R_mono (zgR (Kd.R_types HO466.out BK497.out (by decide))) (fun _ hk => trivial)⟩
   replace HO470 := zqN7 (ok' := fun k_ => nb k_ Ao35 t464.length co35 ∧ nb k_ Ao61 y494.length co61 ∧ k_ ≠ gb437 ∧ k_ ≠ gb438 ∧ k_ ≠ gb439 ∧ k_ ≠ gb467 ∧ k_ ≠ gb471 ∧ k_ ≠ gb497) hq_ HO470 (fun _ hk => hk.2.2.2.2.2.2.2) (fun _ hk => ⟨hk.1.1, ⟨hk.1.2.1, ⟨hk.1.2.2.1, ⟨hk.1.2.2.2.1, ⟨hk.1.2.2.2.2.1, ⟨hk.1.2.2.2.2.2.1, ⟨hk.1.2.2.2.2.2.2.1, hk.1.2.2.2.2.2.2.2⟩⟩⟩⟩⟩⟩⟩)
   replace HO479 := zqV7 (ok' := fun k_ => nb k_ Ao35 t464.length co35 ∧ nb k_ Ao41 y468.length co41 ∧ nb k_ Ao61 y494.length co61 ∧ k_ ≠ gb437 ∧ k_ ≠ gb438 ∧ k_ ≠ gb439 ∧ k_ ≠ gb467 ∧ k_ ≠ gb471 ∧ k_ ≠ gb497) hq_ HO479 (fun _ hk => hk.2.2.2.2.2.2.2.2) (fun _ hk => ⟨hk.1.1, ⟨hk.1.2.1, ⟨hk.1.2.2.1, ⟨hk.1.2.2.2.1, ⟨hk.1.2.2.2.2.1, ⟨hk.1.2.2.2.2.2.1, ⟨hk.1.2.2.2.2.2.2.1, ⟨hk.1.2.2.2.2.2.2.2.1, hk.1.2.2.2.2.2.2.2.2⟩⟩⟩⟩⟩⟩⟩⟩)
   replace HO482 := zqV7 (ok' := fun k_ => nb k_ Ao35 t464.length co35 ∧ nb k_ Ao41 y468.length co41 ∧ nb k_ Ao61 y494.length co61 ∧ k_ ≠ gb437 ∧ k_ ≠ gb438 ∧ k_ ≠ gb439 ∧ k_ ≠ gb467 ∧ k_ ≠ gb471 ∧ k_ ≠ gb497) hq_ HO482 (fun _ hk => hk.2.2.2.2.2.2.2.2) (fun _ hk => ⟨hk.1.1, ⟨hk.1.2.1, ⟨hk.1.2.2.1, ⟨hk.1.2.2.2.1, ⟨hk.1.2.2.2.2.1, ⟨hk.1.2.2.2.2.2.1, ⟨hk.1.2.2.2.2.2.2.1, ⟨hk.1.2.2.2.2.2.2.2.1, hk.1.2.2.2.2.2.2.2.2⟩⟩⟩⟩⟩⟩⟩⟩)
   replace HO490 := zqV7 (ok' := fun k_ => nb k_ Ao35 t464.length co35 ∧ nb k_ Ao41 y468.length co41 ∧ nb k_ Ao61 y494.length co61 ∧ k_ ≠ gb437 ∧ k_ ≠ gb438 ∧ k_ ≠ gb439 ∧ k_ ≠ gb467 ∧ k_ ≠ gb471 ∧ k_ ≠ gb497) hq_ HO490 (fun _ hk => hk.2.2.2.2.2.2.2.2) (fun _ hk => ⟨hk.1.1, ⟨hk.1.2.1, ⟨hk.1.2.2.1, ⟨hk.1.2.2.2.1, ⟨hk.1.2.2.2.2.1, ⟨hk.1.2.2.2.2.2.1, ⟨hk.1.2.2.2.2.2.2.1, ⟨hk.1.2.2.2.2.2.2.2.1, hk.1.2.2.2.2.2.2.2.2⟩⟩⟩⟩⟩⟩⟩⟩)
   replace HO493 := zqV7 (ok' := fun k_ => nb k_ Ao35 t464.length co35 ∧ nb k_ Ao41 y468.length co41 ∧ nb k_ Ao61 y494.length co61 ∧ k_ ≠ gb437 ∧ k_ ≠ gb438 ∧ k_ ≠ gb439 ∧ k_ ≠ gb467 ∧ k_ ≠ gb471 ∧ k_ ≠ gb497) hq_ HO493 (fun _ hk => hk.2.2.2.2.2.2.2.2) (fun _ hk => ⟨hk.1.1, ⟨hk.1.2.1, ⟨hk.1.2.2.1, ⟨hk.1.2.2.2.1, ⟨hk.1.2.2.2.2.1, ⟨hk.1.2.2.2.2.2.1, ⟨hk.1.2.2.2.2.2.2.1, ⟨hk.1.2.2.2.2.2.2.2.1, hk.1.2.2.2.2.2.2.2.2⟩⟩⟩⟩⟩⟩⟩⟩)
   replace HO496 := zqN7 (ok' := fun k_ => nb k_ Ao35 t464.length co35 ∧ nb k_ Ao41 y468.length co41 ∧ k_ ≠ gb437 ∧ k_ ≠ gb438 ∧ k_ ≠ gb439 ∧ k_ ≠ gb467 ∧ k_ ≠ gb471 ∧ k_ ≠ gb497) hq_ HO496 (fun _ hk => hk.2.2.2.2.2.2.2) (fun _ hk => ⟨hk.1.1, ⟨hk.1.2.1, ⟨hk.1.2.2.1, ⟨hk.1.2.2.2.1, ⟨hk.1.2.2.2.2.1, ⟨hk.1.2.2.2.2.2.1, ⟨hk.1.2.2.2.2.2.2.1, hk.1.2.2.2.2.2.2.2⟩⟩⟩⟩⟩⟩⟩)
   replace BK437 := zf7 hq_ BK437 NB437_497
   replace BK438 := zf7 hq_ BK438 NB438_497
   replace BK439 := zf7 hq_ BK439 NB439_497
   replace BK467 := zf7 hq_ BK467 NB467_497
   replace BK471 := zf7 hq_ BK471 NB471_497
   replace BK497 := zp7 hq_ BK497
   replace HB : Aside0 (Below w.heap.size w w73) := ⟨by subst hq_; exact mZ⟩
   clear hq_
   replace HO447 := zM (Kd.V_drew HO447.out)
   replace HO450 := zM (Kd.V_drew HO450.out)
   replace HO458 := zM (Kd.V_drew HO458.out)
   replace HO461 := zM (Kd.V_drew HO461.out)
   replace HO466 := zM (Kd.R_drew HO466.out)
   replace HO470 := zM (Kd.N_drew HO470.out)
   replace HO479 := zM (Kd.V_drew HO479.out)
   replace HO482 := zM (Kd.V_drew HO482.out)
   replace HO490 := zM (Kd.V_drew HO490.out)
   replace HO493 := zM (Kd.V_drew HO493.out)
   replace HO496 := zM (Kd.N_drew HO496.out)
   replace BK437 := zM (blk_drew BK437.out)
   replace BK438 := zM (blk_drew BK438.out)
   replace BK439 := zM (blk_drew BK439.out)
   replace BK467 := zM (blk_drew BK467.out)
   replace BK471 := zM (blk_drew BK471.out)
   replace BK497 := zM (blk_drew BK497.out)
   replace HB := zM (below_drew1 HB.out)
   refine start_ (n := 22) (S := fun w' => w'.cell? ⟨gb471, 0, none⟩ = some (.int .i64 1) ∧ w'.cell? ⟨gb471, 1, none⟩ = some (.string (⟨#[]⟩ : ByteArray)) ∧ w'.cell? ⟨gb471, 2, none⟩ = some (.int .i64 0) ∧ w'.cell? ⟨gb471, 3, none⟩ = some (.int .i64 0) ∧ w'.cell? ⟨gb471, 4, none⟩ = some (.string (⟨#[]⟩ : ByteArray)) ∧ w'.cell? ⟨gb471, 5, none⟩ = some (.slice none 0 0) ∧ w'.cell? ⟨gb471, 6, none⟩ = some (.slice Ao41 y468.length co41) ∧ w'.cell? ⟨gb467, 0, none⟩ = some (.int .i64 t462) ∧ w'.cell? ⟨gb467, 1, none⟩ = some (.int .i64 t463) ∧ w'.cell? ⟨gb467, 2, none⟩ = some (.slice Ao35 t464.length co35) ∧ w'.cell? ⟨gb497, 0, none⟩ = some (.int .i64 2) ∧ w'.cell? ⟨gb497, 1, none⟩ = some (.string (⟨#[]⟩ : ByteArray)) ∧ w'.cell? ⟨gb497, 2, none⟩ = some (.int .i64 0) ∧ w'.cell? ⟨gb497, 3, none⟩ = some (.int .i64 0) ∧ w'.cell? ⟨gb497, 4, none⟩ = some (.string (⟨#[]⟩ : ByteArray)) ∧ w'.cell? ⟨gb497, 5, none⟩ = some (.slice none 0 0) ∧ w'.cell? ⟨gb497, 6, none⟩ = some (.slice Ao61 y494.length co61)) (ds := []) #[false, false, false, false, false, false, false, false, false, false, false, false, false, false, false, false, false, false, false, false, false, false] (by kernel_rfl) rfl rfl (zI7 BK471 (zI3 BK467 (zJ7 BK497))) (fun hHeld => ?_); refine with_tabW columbariumlaw13_PredPairs.tab6 columbariumlaw13_PredPairs.bits6 (fun HT_ HW_ => ?_)
   generalize w73.drew = w74 at HO447 HO450 HO458 HO461 HO466 HO470 HO479 HO482 HO490 HO493 HO496 BK437 BK438 BK439 BK467 BK471 BK497 HB hHeld ⊢
   refine take_ (i := 0) (N := some 36) (v := ?_) (a' := ?_) #[true, false, false, false, false, false, false, false, false, false, false, false, false, false, false, false, false, false, false, false, false, false] rfl rfl (take_ofW HT_.out HW_.out (by kernel_rfl)) (fun _ _ _ h => h) (Or.inl ⟨by rfl, ?_⟩) hHeld ?_ ?_
   rotate_left
   ·rintro w' ⟨s0, s1, s2, s3, s4, s5, s6, s7, s8, s9, s10, s11, s12, s13, s14, s15, s16⟩
    go_simp
    with_reducible rfl
   rotate_left
   ·simp only [Act.put, List.setIfInBounds_toArray, List.set_cons_zero, List.set_cons_succ, i64_w, i32_w]
    rfl
   refine take_ (i := 2) (N := some 38) (v := ?_) (a' := ?_) #[true, false, true, false, false, false, false, false, false, false, false, false, false, false, false, false, false, false, false, false, false, false] rfl rfl (take_ofW HT_.out HW_.out (by kernel_rfl)) (fun _ _ _ h => h) (Or.inl ⟨by rfl, ?_⟩) hHeld ?_ ?_
   rotate_left
   ·rintro w' ⟨s0, s1, s2, s3, s4, s5, s6, s7, s8, s9, s10, s11, s12, s13, s14, s15, s16⟩
    go_simp
    with_reducible rfl
   rotate_left
   ·simp only [Act.put, List.setIfInBounds_toArray, List.set_cons_zero, List.set_cons_succ, i64_w, i32_w]
    rfl
   refine take_ (i := 4) (N := some 40) (v := ?_) (a' := ?_) #[true, false, true, false, true, false, false, false, false, false, false, false, false, false, false, false, false, false, false, false, false, false] rfl rfl (take_ofW HT_.out HW_.out (by kernel_rfl)) (fun _ _ _ h => h) (Or.inl ⟨by rfl, ?_⟩) hHeld ?_ ?_
   rotate_left
   ·rintro w' ⟨s0, s1, s2, s3, s4, s5, s6, s7, s8, s9, s10, s11, s12, s13, s14, s15, s16⟩
    go_simp
    with_reducible rfl
   rotate_left
   ·simp only [Act.put, List.setIfInBounds_toArray, List.set_cons_zero, List.set_cons_succ, i64_w, i32_w]
    rfl
   refine take_ (i := 5) (N := some 41) (v := ?_) (a' := ?_) #[true, false, true, false, true, true, false, false, false, false, false, false, false, false, false, false, false, false, false, false, false, false] rfl rfl (take_ofW HT_.out HW_.out (by kernel_rfl)) (fun _ _ _ h => h) (Or.inl ⟨by rfl, ?_⟩) hHeld ?_ ?_
   rotate_left
   ·rintro w' ⟨s0, s1, s2, s3, s4, s5, s6, s7, s8, s9, s10, s11, s12, s13, s14, s15, s16⟩
    go_simp
    with_reducible rfl
   rotate_left
   ·simp only [Act.put, List.setIfInBounds_toArray, List.set_cons_zero, List.set_cons_succ, i64_w, i32_w]
    rfl
   refine one_ (i := 1) (N := some 37) #[true, true, true, false, true, true, false, false, false, false, false, false, false, false, false, false, false, false, false, false, false, false] rfl rfl (one_of HT_.out (by kernel_rfl)) (by decide) (fun K hK => ?_)
   refine goes_ Try.func16 (by kernel_rfl) rfl #[.agg #[.int .i64 1, .string (⟨#[]⟩ : ByteArray), .int .i64 0, .int .i64 0, .string (⟨#[]⟩ : ByteArray), .slice none 0 0, .slice Ao41 y468.length co41], .int .i64 1] (by rfl) rfl rfl yb ?_
   refine (columbariumlaw13_nots.calls k 1 (⟨#[]⟩ : ByteArray) 0 0 (⟨#[]⟩ : ByteArray) (fun k_ => False) _ _ ([] : List ByteArray) (fun k_ => (nb k_ Ao35 t464.length co35 ∧ (nb k_ Ao61 y494.length co61 ∧ (k_ ≠ gb437 ∧ (k_ ≠ gb438 ∧ (k_ ≠ gb439 ∧ (k_ ≠ gb467 ∧ (k_ ≠ gb471 ∧ k_ ≠ gb497)))))))) _ _ y468 1 t498 t499 t500 t501 t502 t503 t506 _ ?side1 ?side2 A69.out).mono ?_
   (case side1 => exact Kd.V_nil _ _ _ _ _)
   (case side2 => exact Kd.N_V (HO470.out))
   rintro e w75 ⟨v504, v507, rfl, ho0, ho1, hb⟩
   refine ⟨_, rfl, ?_⟩
   replace HO447 := zV HO447 hb
   replace HO450 := zV HO450 hb
   replace HO458 := zV HO458 hb
   replace HO461 := zV HO461 hb
   replace HO470 := zN HO470 hb
   replace HO479 := zV HO479 hb
   replace HO482 := zV HO482 hb
   replace HO490 := zV HO490 hb
   replace HO493 := zV HO493 hb
   have HO505 := zM (Kd.V_lower (Kd.V_mono (ok' := fun k_ => nb k_ Ao35 t464.length co35 ∧ nb k_ Ao61 y494.length co61 ∧ k_ ≠ gb437 ∧ k_ ≠ gb438 ∧ k_ ≠ gb439 ∧ k_ ≠ gb467 ∧ k_ ≠ gb471 ∧ k_ ≠ gb497) ho0 (fun k_ hk_ => Or.elim hk_ (fun hs_ => Or.elim hs_ (fun hs_ => ⟨(hs_).elim, (hs_).elim, (hs_).elim, (hs_).elim, (hs_).elim, (hs_).elim, (hs_).elim, (hs_).elim⟩) (fun hs_ => ⟨hs_.1, hs_.2.1, hs_.2.2.1, hs_.2.2.2.1, hs_.2.2.2.2.1, hs_.2.2.2.2.2.1, hs_.2.2.2.2.2.2.1, hs_.2.2.2.2.2.2.2⟩)) (fun hn_ => ⟨(fR HO466 hn_), (fN HO496 hn_), (fK BK437 hn_), (fK BK438 hn_), (fK BK439 hn_), (fK BK467 hn_), (fK BK471 hn_), (fK BK497 hn_)⟩))) (below_size mZ))
   have HO508 := zM (Kd.V_lower (Kd.V_mono (ok' := fun k_ => nb k_ Ao35 t464.length co35 ∧ nb k_ Ao61 y494.length co61 ∧ k_ ≠ gb437 ∧ k_ ≠ gb438 ∧ k_ ≠ gb439 ∧ k_ ≠ gb467 ∧ k_ ≠ gb471 ∧ k_ ≠ gb497) ho1 (fun k_ hk_ => Or.elim hk_ (fun hs_ => Or.elim hs_ (fun hs_ => ⟨(hs_).elim, (hs_).elim, (hs_).elim, (hs_).elim, (hs_).elim, (hs_).elim, (hs_).elim, (hs_).elim⟩) (fun hs_ => ⟨hs_.1, hs_.2.1, hs_.2.2.1, hs_.2.2.2.1, hs_.2.2.2.2.1, hs_.2.2.2.2.2.1, hs_.2.2.2.2.2.2.1, hs_.2.2.2.2.2.2.2⟩)) (fun hn_ => ⟨(fR HO466 hn_), (fN HO496 hn_), (fK BK437 hn_), (fK BK438 hn_), (fK BK439 hn_), (fK BK467 hn_), (fK BK471 hn_), (fK BK497 hn_)⟩))) (below_size mZ))
   replace HO466 := zR HO466 hb
   replace HO496 := zN HO496 hb
   replace BK437 := zK BK437 hb
   replace BK438 := zK BK438 hb
   replace BK439 := zK BK439 hb
   replace BK467 := zK BK467 hb
   replace BK471 := zK BK471 hb
   replace BK497 := zK BK497 hb
   replace HB := zM (below_step mZ hb)
   (try clear hb)
   (try clear hb2)
   (try clear hk)
   (try clear hi)
   (try clear ho0)
   (try clear ho1)
   obtain ⟨Ao76, co76, eo76⟩ := Kd.V_slice HO505.out
   (first | subst eo76 | (injection eo76 with f1_ f2_ f3_; have f4_ := f1_.symm; have f5_ := f3_.symm; clear f1_ f2_ f3_; subst f4_; subst f5_))
   obtain ⟨Ao77, co77, eo77⟩ := Kd.V_slice HO508.out
   (first | subst eo77 | (injection eo77 with f1_ f2_ f3_; have f4_ := f1_.symm; have f5_ := f3_.symm; clear f1_ f2_ f3_; subst f4_; subst f5_))
   refine hK.out _ _ (zI7 BK471 (zI3 BK467 (zJ7 BK497))) (fun hHeld => ?_)
   clear hK K
   refine norm_ (a' := ?_) ?_ ?_
   rotate_left
   ·show Act.put _ (some 37) _ = _
    simp only [Act.put, List.setIfInBounds_toArray, List.set_cons_zero, List.set_cons_succ, i64_w, i32_w]
    rfl
   refine one_ (i := 3) (N := some 39) #[true, true, true, true, true, true, false, false, false, false, false, false, false, false, false, false, false, false, false, false, false, false] rfl rfl (one_of HT_.out (by kernel_rfl)) (by decide) (fun K hK => ?_)
   refine goes_ Try.func15 (by kernel_rfl) rfl #[.agg #[.int .i64 t498, .string t499, .int .i64 t500, .int .i64 t501, .string t502, .slice Ao76 t503.length co76, .slice Ao77 t506.length co77], .agg #[.int .i64 t462, .int .i64 t463, .slice Ao35 t464.length co35]] (by rfl) rfl rfl yb ?_
   with_reducible refine (pred_Eval.calls k t498 t499 t500 t501 t502 _ _ t503 _ _ t506 t462 t463 _ _ t464 t509 _ ?side1 ?side2 ?side3 ?side4 ?side5 ?side6 A70.out).mono ?_
   (case side1 => exact zC ((Kd.V_reads' HO505.out).2.2))
   (case side2 => exact (Kd.V_reads' HO505.out).2.1)
   (case side3 => exact zC ((Kd.V_reads' HO508.out).2.2))
   (case side4 => exact (Kd.V_reads' HO508.out).2.1)
   (case side5 => exact zC ((Kd.R_reads' HO466.out).2.2))
   (case side6 => exact (Kd.R_reads' HO466.out).2.1)
   rintro e w78 ⟨rfl, hb⟩
   refine ⟨_, rfl, ?_⟩
   replace HO447 := zV HO447 hb
   replace HO450 := zV HO450 hb
   replace HO458 := zV HO458 hb
   replace HO461 := zV HO461 hb
   replace HO466 := zR HO466 hb
   replace HO470 := zN HO470 hb
   replace HO479 := zV HO479 hb
   replace HO482 := zV HO482 hb
   replace HO490 := zV HO490 hb
   replace HO493 := zV HO493 hb
   replace HO496 := zN HO496 hb
   replace HO505 := zV HO505 hb
   replace HO508 := zV HO508 hb
   replace BK437 := zK BK437 hb
   replace BK438 := zK BK438 hb
   replace BK439 := zK BK439 hb
   replace BK467 := zK BK467 hb
   replace BK471 := zK BK471 hb
   replace BK497 := zK BK497 hb
   replace HB := zM (below_step mZ hb)
   (try clear hb)
   (try clear hb2)
   (try clear hk)
   (try clear hi)
   refine hK.out _ _ (zI7 BK471 (zI3 BK467 (zJ7 BK497))) (fun hHeld => ?_)
   clear hK K
   refine norm_ (a' := ?_) ?_ ?_
   rotate_left
   ·show Act.put _ (some 39) _ = _
    simp only [Act.put, List.setIfInBounds_toArray, List.set_cons_zero, List.set_cons_succ, i64_w, i32_w]
    rfl
   refine one_ (i := 6) (N := some 42) #[true, true, true, true, true, true, true, false, false, false, false, false, false, false, false, false, false, false, false, false, false, false] rfl rfl (one_of HT_.out (by kernel_rfl)) (by decide) (fun K hK => ?_)
   refine goes_ Try.func15 (by kernel_rfl) rfl #[.agg #[.int .i64 2, .string (⟨#[]⟩ : ByteArray), .int .i64 0, .int .i64 0, .string (⟨#[]⟩ : ByteArray), .slice none 0 0, .slice Ao61 y494.length co61], .agg #[.int .i64 t462, .int .i64 t463, .slice Ao35 t464.length co35]] (by rfl) rfl rfl yb ?_
   refine (pred_Eval.calls k 2 (⟨#[]⟩ : ByteArray) 0 0 (⟨#[]⟩ : ByteArray) _ _ ([] : List ByteArray) _ _ y494 t462 t463 _ _ t464 t510 _ ?side1 ?side2 ?side3 ?side4 ?side5 ?side6 A71.out).mono ?_
   (case side1 => exact Kd.C_nil _ _)
   (case side2 => exact Nat.le_refl _)
   (case side3 => exact zC ((Kd.N_reads' HO496.out).2.2))
   (case side4 => exact (Kd.N_reads' HO496.out).2.1)
   (case side5 => exact zC ((Kd.R_reads' HO466.out).2.2))
   (case side6 => exact (Kd.R_reads' HO466.out).2.1)
   rintro e w79 ⟨rfl, hb⟩
   refine ⟨_, rfl, ?_⟩
   replace HO447 := zV HO447 hb
   replace HO450 := zV HO450 hb
   replace HO458 := zV HO458 hb
   replace HO461 := zV HO461 hb
   replace HO466 := zR HO466 hb
   replace HO470 := zN HO470 hb
   replace HO479 := zV HO479 hb
   replace HO482 := zV HO482 hb
   replace HO490 := zV HO490 hb
   replace HO493 := zV HO493 hb
   replace HO496 := zN HO496 hb
   replace HO505 := zV HO505 hb
   replace HO508 := zV HO508 hb
   replace BK437 := zK BK437 hb
   replace BK438 := zK BK438 hb
   replace BK439 := zK BK439 hb
   replace BK467 := zK BK467 hb
   replace BK471 := zK BK471 hb
   replace BK497 := zK BK497 hb
   replace HB := zM (below_step mZ hb)
   (try clear hb)
   (try clear hb2)
   (try clear hk)
   (try clear hi)
   refine hK.out _ _ (zI7 BK471 (zI3 BK467 (zJ7 BK497))) (fun hHeld => ?_)
   clear hK K
   refine norm_ (a' := ?_) ?_ ?_
   rotate_left
   ·show Act.put _ (some 42) _ = _
    simp only [Act.put, List.setIfInBounds_toArray, List.set_cons_zero, List.set_cons_succ, i64_w, i32_w]
    rfl
   refine pure_ (i := 7) (N := some 43) (v := ?_) (a' := ?_) #[true, true, true, true, true, true, true, true, false, false, false, false, false, false, false, false, false, false, false, false, false, false] rfl rfl (any_of HT_.out (by kernel_rfl)) (fun _ _ _ h => h) (Or.inl ⟨by rfl, ?_⟩) ?_ ?_
   rotate_left
   ·intro w'
    go_simp
    with_reducible rfl
   rotate_left
   ·simp only [Act.put, List.setIfInBounds_toArray, List.set_cons_zero, List.set_cons_succ, i64_w, i32_w]
    rfl
   refine pure_ (i := 8) (N := some 44) (v := ?_) (a' := ?_) #[true, true, true, true, true, true, true, true, true, false, false, false, false, false, false, false, false, false, false, false, false, false] rfl rfl (any_of HT_.out (by kernel_rfl)) (fun _ _ _ h => h) (Or.inl ⟨by rfl, ?_⟩) ?_ ?_
   rotate_left
   ·intro w'
    go_simp
    with_reducible rfl
   rotate_left
   ·simp only [Act.put, List.setIfInBounds_toArray, List.set_cons_zero, List.set_cons_succ, i64_w, i32_w]
    rfl
   refine pure_ (i := 9) (N := some 45) (v := undef) (a' := ?_) #[true, true, true, true, true, true, true, true, true, true, false, false, false, false, false, false, false, false, false, false, false, false] rfl rfl (any_of HT_.out (by kernel_rfl)) (fun _ _ _ h => h) (Or.inr ⟨by rfl, rfl⟩) ?_ ?_
   rotate_left
   ·simp only [Act.put, List.setIfInBounds_toArray, List.set_cons_zero, List.set_cons_succ, i64_w, i32_w]
    rfl
   refine pure_ (i := 10) (N := some 46) (v := undef) (a' := ?_) #[true, true, true, true, true, true, true, true, true, true, true, false, false, false, false, false, false, false, false, false, false, false] rfl rfl (any_of HT_.out (by kernel_rfl)) (fun _ _ _ h => h) (Or.inr ⟨by rfl, rfl⟩) ?_ ?_
   rotate_left
   ·simp only [Act.put, List.setIfInBounds_toArray, List.set_cons_zero, List.set_cons_succ, i64_w, i32_w]
    rfl
   refine pure_ (i := 11) (N := some 47) (v := undef) (a' := ?_) #[true, true, true, true, true, true, true, true, true, true, true, true, false, false, false, false, false, false, false, false, false, false] rfl rfl (any_of HT_.out (by kernel_rfl)) (fun _ _ _ h => h) (Or.inr ⟨by rfl, rfl⟩) ?_ ?_
   rotate_left
   ·simp only [Act.put, List.setIfInBounds_toArray, List.set_cons_zero, List.set_cons_succ, i64_w, i32_w]
    rfl
   refine pure_ (i := 12) (N := some 48) (v := undef) (a' := ?_) #[true, true, true, true, true, true, true, true, true, true, true, true, true, false, false, false, false, false, false, false, false, false] rfl rfl (any_of HT_.out (by kernel_rfl)) (fun _ _ _ h => h) (Or.inr ⟨by rfl, rfl⟩) ?_ ?_
   rotate_left
   ·simp only [Act.put, List.setIfInBounds_toArray, List.set_cons_zero, List.set_cons_succ, i64_w, i32_w]
    rfl
   refine pure_ (i := 13) (N := some 49) (v := undef) (a' := ?_) #[true, true, true, true, true, true, true, true, true, true, true, true, true, true, false, false, false, false, false, false, false, false] rfl rfl (any_of HT_.out (by kernel_rfl)) (fun _ _ _ h => h) (Or.inr ⟨by rfl, rfl⟩) ?_ ?_
   rotate_left
   ·simp only [Act.put, List.setIfInBounds_toArray, List.set_cons_zero, List.set_cons_succ, i64_w, i32_w]
    rfl
   refine pure_ (i := 14) (N := some 50) (v := undef) (a' := ?_) #[true, true, true, true, true, true, true, true, true, true, true, true, true, true, true, false, false, false, false, false, false, false] rfl rfl (any_of HT_.out (by kernel_rfl)) (fun _ _ _ h => h) (Or.inr ⟨by rfl, rfl⟩) ?_ ?_
   rotate_left
   ·simp only [Act.put, List.setIfInBounds_toArray, List.set_cons_zero, List.set_cons_succ, i64_w, i32_w]
    rfl
   refine pure_ (i := 15) (N := some 51) (v := undef) (a' := ?_) #[true, true, true, true, true, true, true, true, true, true, true, true, true, true, true, true, false, false, false, false, false, false] rfl rfl (any_of HT_.out (by kernel_rfl)) (fun _ _ _ h => h) (Or.inr ⟨by rfl, rfl⟩) ?_ ?_
   rotate_left
   ·simp only [Act.put, List.setIfInBounds_toArray, List.set_cons_zero, List.set_cons_succ, i64_w, i32_w]
    rfl
   refine pure_ (i := 16) (N := some 52) (v := undef) (a' := ?_) #[true, true, true, true, true, true, true, true, true, true, true, true, true, true, true, true, true, false, false, false, false, false] rfl rfl (any_of HT_.out (by kernel_rfl)) (fun _ _ _ h => h) (Or.inr ⟨by rfl, rfl⟩) ?_ ?_
   rotate_left
   ·simp only [Act.put, List.setIfInBounds_toArray, List.set_cons_zero, List.set_cons_succ, i64_w, i32_w]
    rfl
   refine pure_ (i := 17) (N := some 53) (v := undef) (a' := ?_) #[true, true, true, true, true, true, true, true, true, true, true, true, true, true, true, true, true, true, false, false, false, false] rfl rfl (any_of HT_.out (by kernel_rfl)) (fun _ _ _ h => h) (Or.inr ⟨by rfl, rfl⟩) ?_ ?_
   rotate_left
   ·simp only [Act.put, List.setIfInBounds_toArray, List.set_cons_zero, List.set_cons_succ, i64_w, i32_w]
    rfl
   refine pure_ (i := 18) (N := some 54) (v := undef) (a' := ?_) #[true, true, true, true, true, true, true, true, true, true, true, true, true, true, true, true, true, true, true, false, false, false] rfl rfl (any_of HT_.out (by kernel_rfl)) (fun _ _ _ h => h) (Or.inr ⟨by rfl, rfl⟩) ?_ ?_
   rotate_left
   ·simp only [Act.put, List.setIfInBounds_toArray, List.set_cons_zero, List.set_cons_succ, i64_w, i32_w]
    rfl
   refine pure_ (i := 19) (N := some 55) (v := undef) (a' := ?_) #[true, true, true, true, true, true, true, true, true, true, true, true, true, true, true, true, true, true, true, true, false, false] rfl rfl (any_of HT_.out (by kernel_rfl)) (fun _ _ _ h => h) (Or.inr ⟨by rfl, rfl⟩) ?_ ?_
   rotate_left
   ·simp only [Act.put, List.setIfInBounds_toArray, List.set_cons_zero, List.set_cons_succ, i64_w, i32_w]
    rfl
   refine pure_ (i := 20) (N := some 56) (v := undef) (a' := ?_) #[true, true, true, true, true, true, true, true, true, true, true, true, true, true, true, true, true, true, true, true, true, false] rfl rfl (any_of HT_.out (by kernel_rfl)) (fun _ _ _ h => h) (Or.inr ⟨by rfl, rfl⟩) ?_ ?_
   rotate_left
   ·simp only [Act.put, List.setIfInBounds_toArray, List.set_cons_zero, List.set_cons_succ, i64_w, i32_w]
    rfl
   refine pure_ (i := 21) (N := some 57) (v := ?_) (a' := ?_) #[true, true, true, true, true, true, true, true, true, true, true, true, true, true, true, true, true, true, true, true, true, true] rfl rfl (any_of HT_.out (by kernel_rfl)) (fun _ _ _ h => h) (Or.inl ⟨by rfl, ?_⟩) ?_ ?_
   rotate_left
   ·intro w'
    go_simp
    with_reducible rfl
   rotate_left
   ·simp only [Act.put, List.setIfInBounds_toArray, List.set_cons_zero, List.set_cons_succ, i64_w, i32_w]
    rfl
   refine done_ (done_of HT_.out (by kernel_rfl)) ?_
   try go_wp2
   go_meet
   case rel => exact ⟨_, (true), ya, H', ⟨by first | omega | exact Nat.le_refl _⟩, ⟨yV HO447 (fun _ hk => ⟨hk.2.2.2.1, ⟨hk.2.2.2.2.1, ⟨hk.2.2.2.2.2.1, ⟨hk.2.2.2.2.2.2.1, ⟨hk.2.2.2.2.2.2.2.1, ⟨hk.2.2.2.2.2.2.2.2.1, ⟨hk.2.2.2.2.2.2.2.2.2.1, ⟨hk.2.2.2.2.2.2.2.2.2.2.1, hk.2.2.2.2.2.2.2.2.2.2.2⟩⟩⟩⟩⟩⟩⟩⟩)⟩, ⟨yV HO450 (fun _ hk => ⟨hk.2.2.2.1, ⟨hk.2.2.2.2.1, ⟨hk.2.2.2.2.2.1, ⟨hk.2.2.2.2.2.2.1, ⟨hk.2.2.2.2.2.2.2.1, ⟨hk.2.2.2.2.2.2.2.2.1, ⟨hk.2.2.2.2.2.2.2.2.2.1, ⟨hk.2.2.2.2.2.2.2.2.2.2.1, hk.2.2.2.2.2.2.2.2.2.2.2⟩⟩⟩⟩⟩⟩⟩⟩)⟩, ⟨yV HO458 (fun _ hk => ⟨hk.2.2.1, ⟨hk.2.2.2.1, ⟨hk.2.2.2.2.1, ⟨hk.2.2.2.2.2.1, ⟨hk.2.2.2.2.2.2.1, ⟨hk.2.2.2.2.2.2.2.1, ⟨hk.2.2.2.2.2.2.2.2.1, ⟨hk.2.2.2.2.2.2.2.2.2.1, hk.2.2.2.2.2.2.2.2.2.2⟩⟩⟩⟩⟩⟩⟩⟩)⟩, ⟨yV HO461 (fun _ hk => ⟨hk.2.2.2.1, ⟨hk.2.2.2.2.1, ⟨hk.2.2.2.2.2.1, ⟨hk.2.2.2.2.2.2.1, ⟨hk.2.2.2.2.2.2.2.1, ⟨hk.2.2.2.2.2.2.2.2.1, ⟨hk.2.2.2.2.2.2.2.2.2.1, ⟨hk.2.2.2.2.2.2.2.2.2.2.1, hk.2.2.2.2.2.2.2.2.2.2.2⟩⟩⟩⟩⟩⟩⟩⟩)⟩, ⟨mR HO466.out⟩, ⟨mN HO470.out⟩, ⟨mN HO496.out⟩, ⟨mK BK437.out⟩, ⟨mK BK438.out⟩, ⟨mK BK439.out⟩, ⟨mK BK467.out⟩, ⟨mK BK471.out⟩, ⟨mK BK497.out⟩, ⟨mZ⟩⟩
  rw [if_neg c72] at H
  have c72b0 : (t509 != t510) = false := by simpa using c72
  (try (have c72b1 : decide (t509 = t510) = true := by simpa using c72))
  (try (have c72b2 : (t509 == t510) = true := by simpa using c72))
  clear c72
  (first | rw [c72b0] | rw [c72b1] | (simp only [i64_w, i32_w]; rw [c72b0]) | skip)
  replace H := Option.bind_eq_some_iff.mp H
  obtain ⟨t511, A800, H⟩ := H
  try dsimp only at H
  have A80 := zM A800
  clear A800
  replace H := Option.bind_eq_some_iff.mp H
  obtain ⟨t512, A810, H⟩ := H
  try dsimp only at H
  have A81 := zM A810
  clear A810
  by_cases c82 : t512 = true
  ·subst c82
   rw [if_pos rfl] at H
   replace H := Option.bind_eq_some_iff.mp H
   obtain ⟨t513, A830, H⟩ := H
   try dsimp only at H
   have A83 := zM A830
   clear A830
   have H' := Aside0.mk H
   clear H
   try go_wp2
   generalize hq_ : (((((((w60.setCell ⟨gb497, 0, none⟩ (.int .i64 2)).setCell ⟨gb497, 1, none⟩ (.string (⟨#[]⟩ : ByteArray))).setCell ⟨gb497, 2, none⟩ (.int .i64 0)).setCell ⟨gb497, 3, none⟩ (.int .i64 0)).setCell ⟨gb497, 4, none⟩ (.string (⟨#[]⟩ : ByteArray))).setCell ⟨gb497, 5, none⟩ (.slice none 0 0)).setCell ⟨gb497, 6, none⟩ (.slice Ao61 y494.length co61)) = w84
   replace HO447 := zqV7 (ok' := fun k_ => nb k_ Ao21 t448.length co21 ∧ nb k_ Ao26 t456.length co26 ∧ nb k_ Ao27 t459.length co27 ∧ nb k_ Ao35 t464.length co35 ∧ nb k_ Ao41 y468.length co41 ∧ nb k_ Ao61 y494.length co61 ∧ k_ ≠ gb437 ∧ k_ ≠ gb438 ∧ k_ ≠ gb439 ∧ k_ ≠ gb467 ∧ k_ ≠ gb471 ∧ k_ ≠ gb497) hq_ HO447 (fun _ hk => hk.2.2.2.2.2.2.2.2.2.2.2) (fun _ hk => ⟨hk.1.1, ⟨hk.1.2.1, ⟨hk.1.2.2.1, ⟨hk.1.2.2.2.1, ⟨hk.1.2.2.2.2.1, ⟨hk.1.2.2.2.2.2.1, ⟨hk.1.2.2.2.2.2.2.1, ⟨hk.1.2.2.2.2.2.2.2.1, ⟨hk.1.2.2.2.2.2.2.2.2.1, ⟨hk.1.2.2.2.2.2.2.2.2.2.1, ⟨hk.1.2.2.2.2.2.2.2.2.2.2.1, hk.1.2.2.2.2.2.2.2.2.2.2.2⟩⟩⟩⟩⟩⟩⟩⟩⟩⟩⟩)
   replace HO450 := zqV7 (ok' := fun k_ => nb k_ Ao20 t445.length co20 ∧ nb k_ Ao26 t456.length co26 ∧ nb k_ Ao27 t459.length co27 ∧ nb k_ Ao35 t464.length co35 ∧ nb k_ Ao41 y468.length co41 ∧ nb k_ Ao61 y494.length co61 ∧ k_ ≠ gb437 ∧ k_ ≠ gb438 ∧ k_ ≠ gb439 ∧ k_ ≠ gb467 ∧ k_ ≠ gb471 ∧ k_ ≠ gb497) hq_ HO450 (fun _ hk => hk.2.2.2.2.2.2.2.2.2.2.2) (fun _ hk => ⟨hk.1.1, ⟨hk.1.2.1, ⟨hk.1.2.2.1, ⟨hk.1.2.2.2.1, ⟨hk.1.2.2.2.2.1, ⟨hk.1.2.2.2.2.2.1, ⟨hk.1.2.2.2.2.2.2.1, ⟨hk.1.2.2.2.2.2.2.2.1, ⟨hk.1.2.2.2.2.2.2.2.2.1, ⟨hk.1.2.2.2.2.2.2.2.2.2.1, ⟨hk.1.2.2.2.2.2.2.2.2.2.2.1, hk.1.2.2.2.2.2.2.2.2.2.2.2⟩⟩⟩⟩⟩⟩⟩⟩⟩⟩⟩)
   replace HO458 := zqV7 (ok' := fun k_ => nb k_ Ao20 t445.length co20 ∧ nb k_ Ao27 t459.length co27 ∧ nb k_ Ao35 t464.length co35 ∧ nb k_ Ao41 y468.length co41 ∧ nb k_ Ao61 y494.length co61 ∧ k_ ≠ gb437 ∧ k_ ≠ gb438 ∧ k_ ≠ gb439 ∧ k_ ≠ gb467 ∧ k_ ≠ gb471 ∧ k_ ≠ gb497) hq_ HO458 (fun _ hk => hk.2.2.2.2.2.2.2.2.2.2) (fun _ hk => ⟨hk.1.1, ⟨hk.1.2.1, ⟨hk.1.2.2.1, ⟨hk.1.2.2.2.1, ⟨hk.1.2.2.2.2.1, ⟨hk.1.2.2.2.2.2.1, ⟨hk.1.2.2.2.2.2.2.1, ⟨hk.1.2.2.2.2.2.2.2.1, ⟨hk.1.2.2.2.2.2.2.2.2.1, ⟨hk.1.2.2.2.2.2.2.2.2.2.1, hk.1.2.2.2.2.2.2.2.2.2.2⟩⟩⟩⟩⟩⟩⟩⟩⟩⟩)
   replace HO461 := zqV7 (ok' := fun k_ => nb k_ Ao20 t445.length co20 ∧ nb k_ Ao21 t448.length co21 ∧ nb k_ Ao26 t456.length co26 ∧ nb k_ Ao35 t464.length co35 ∧ nb k_ Ao41 y468.length co41 ∧ nb k_ Ao61 y494.length co61 ∧ k_ ≠ gb437 ∧ k_ ≠ gb438 ∧ k_ ≠ gb439 ∧ k_ ≠ gb467 ∧ k_ ≠ gb471 ∧ k_ ≠ gb497) hq_ HO461 (fun _ hk => hk.2.2.2.2.2.2.2.2.2.2.2) (fun _ hk => ⟨hk.1.1, ⟨hk.1.2.1, ⟨hk.1.2.2.1, ⟨hk.1.2.2.2.1, ⟨hk.1.2.2.2.2.1, ⟨hk.1.2.2.2.2.2.1, ⟨hk.1.2.2.2.2.2.2.1, ⟨hk.1.2.2.2.2.2.2.2.1, ⟨hk.1.2.2.2.2.2.2.2.2.1, ⟨hk.1.2.2.2.2.2.2.2.2.2.1, ⟨hk.1.2.2.2.2.2.2.2.2.2.2.1, hk.1.2.2.2.2.2.2.2.2.2.2.2⟩⟩⟩⟩⟩⟩⟩⟩⟩⟩⟩)
   replace HO466 : Aside0 (Kd.R k52 52 w84 w.heap.size (fun _ => True) (.slice Ao35 t464.length co35) t464) := ⟨by subst hq_; (with_reducible repeat (first | apply Kd.R_alloc | apply Kd.R_drewN | apply Kd.R_drew)); exact Kd.R_mono (zgR (Kd.R_types HO466.out BK497.out (by decide))) (fun _ hk => trivial)⟩
   replace HO470 := zqN7 (ok' := fun k_ => nb k_ Ao35 t464.length co35 ∧ nb k_ Ao61 y494.length co61 ∧ k_ ≠ gb437 ∧ k_ ≠ gb438 ∧ k_ ≠ gb439 ∧ k_ ≠ gb467 ∧ k_ ≠ gb471 ∧ k_ ≠ gb497) hq_ HO470 (fun _ hk => hk.2.2.2.2.2.2.2) (fun _ hk => ⟨hk.1.1, ⟨hk.1.2.1, ⟨hk.1.2.2.1, ⟨hk.1.2.2.2.1, ⟨hk.1.2.2.2.2.1, ⟨hk.1.2.2.2.2.2.1, ⟨hk.1.2.2.2.2.2.2.1, hk.1.2.2.2.2.2.2.2⟩⟩⟩⟩⟩⟩⟩)
   replace HO479 := zqV7 (ok' := fun k_ => nb k_ Ao35 t464.length co35 ∧ nb k_ Ao41 y468.length co41 ∧ nb k_ Ao61 y494.length co61 ∧ k_ ≠ gb437 ∧ k_ ≠ gb438 ∧ k_ ≠ gb439 ∧ k_ ≠ gb467 ∧ k_ ≠ gb471 ∧ k_ ≠ gb497) hq_ HO479 (fun _ hk => hk.2.2.2.2.2.2.2.2) (fun _ hk => ⟨hk.1.1, ⟨hk.1.2.1, ⟨hk.1.2.2.1, ⟨hk.1.2.2.2.1, ⟨hk.1.2.2.2.2.1, ⟨hk.1.2.2.2.2.2.1, ⟨hk.1.2.2.2.2.2.2.1, ⟨hk.1.2.2.2.2.2.2.2.1, hk.1.2.2.2.2.2.2.2.2⟩⟩⟩⟩⟩⟩⟩⟩)
   replace HO482 := zqV7 (ok' := fun k_ => nb k_ Ao35 t464.length co35 ∧ nb k_ Ao41 y468.length co41 ∧ nb k_ Ao61 y494.length co61 ∧ k_ ≠ gb437 ∧ k_ ≠ gb438 ∧ k_ ≠ gb439 ∧ k_ ≠ gb467 ∧ k_ ≠ gb471 ∧ k_ ≠ gb497) hq_ HO482 (fun _ hk => hk.2.2.2.2.2.2.2.2) (fun _ hk => ⟨hk.1.1, ⟨hk.1.2.1, ⟨hk.1.2.2.1, ⟨hk.1.2.2.2.1, ⟨hk.1.2.2.2.2.1, ⟨hk.1.2.2.2.2.2.1, ⟨hk.1.2.2.2.2.2.2.1, ⟨hk.1.2.2.2.2.2.2.2.1, hk.1.2.2.2.2.2.2.2.2⟩⟩⟩⟩⟩⟩⟩⟩)
   replace HO490 := zqV7 (ok' := fun k_ => nb k_ Ao35 t464.length co35 ∧ nb k_ Ao41 y468.length co41 ∧ nb k_ Ao61 y494.length co61 ∧ k_ ≠ gb437 ∧ k_ ≠ gb438 ∧ k_ ≠ gb439 ∧ k_ ≠ gb467 ∧ k_ ≠ gb471 ∧ k_ ≠ gb497) hq_ HO490 (fun _ hk => hk.2.2.2.2.2.2.2.2) (fun _ hk => ⟨hk.1.1, ⟨hk.1.2.1, ⟨hk.1.2.2.1, ⟨hk.1.2.2.2.1, ⟨hk.1.2.2.2.2.1, ⟨hk.1.2.2.2.2.2.1, ⟨hk.1.2.2.2.2.2.2.1, ⟨hk.1.2.2.2.2.2.2.2.1, hk.1.2.2.2.2.2.2.2.2⟩⟩⟩⟩⟩⟩⟩⟩)
   replace HO493 := zqV7 (ok' := fun k_ => nb k_ Ao35 t464.length co35 ∧ nb k_ Ao41 y468.length co41 ∧ nb k_ Ao61 y494.length co61 ∧ k_ ≠ gb437 ∧ k_ ≠ gb438 ∧ k_ ≠ gb439 ∧ k_ ≠ gb467 ∧ k_ ≠ gb471 ∧ k_ ≠ gb497) hq_ HO493 (fun _ hk => hk.2.2.2.2.2.2.2.2) (fun _ hk => ⟨hk.1.1, ⟨hk.1.2.1, ⟨hk.1.2.2.1, ⟨hk.1.2.2.2.1, ⟨hk.1.2.2.2.2.1, ⟨hk.1.2.2.2.2.2.1, ⟨hk.1.2.2.2.2.2.2.1, ⟨hk.1.2.2.2.2.2.2.2.1, hk.1.2.2.2.2.2.2.2.2⟩⟩⟩⟩⟩⟩⟩⟩)
   replace HO496 := zqN7 (ok' := fun k_ => nb k_ Ao35 t464.length co35 ∧ nb k_ Ao41 y468.length co41 ∧ k_ ≠ gb437 ∧ k_ ≠ gb438 ∧ k_ ≠ gb439 ∧ k_ ≠ gb467 ∧ k_ ≠ gb471 ∧ k_ ≠ gb497) hq_ HO496 (fun _ hk => hk.2.2.2.2.2.2.2) (fun _ hk => ⟨hk.1.1, ⟨hk.1.2.1, ⟨hk.1.2.2.1, ⟨hk.1.2.2.2.1, ⟨hk.1.2.2.2.2.1, ⟨hk.1.2.2.2.2.2.1, ⟨hk.1.2.2.2.2.2.2.1, hk.1.2.2.2.2.2.2.2⟩⟩⟩⟩⟩⟩⟩)
   replace BK437 := zf7 hq_ BK437 NB437_497
   replace BK438 := zf7 hq_ BK438 NB438_497
   replace BK439 := zf7 hq_ BK439 NB439_497
   replace BK467 := zf7 hq_ BK467 NB467_497
   replace BK471 := zf7 hq_ BK471 NB471_497
   replace BK497 := zp7 hq_ BK497
   replace HB : Aside0 (Below w.heap.size w w84) := ⟨by subst hq_; exact mZ⟩
   clear hq_
   replace HO447 := zM (Kd.V_drew HO447.out)
   replace HO450 := zM (Kd.V_drew HO450.out)
   replace HO458 := zM (Kd.V_drew HO458.out)
   replace HO461 := zM (Kd.V_drew HO461.out)
   replace HO466 := zM (Kd.R_drew HO466.out)
   replace HO470 := zM (Kd.N_drew HO470.out)
   replace HO479 := zM (Kd.V_drew HO479.out)
   replace HO482 := zM (Kd.V_drew HO482.out)
   replace HO490 := zM (Kd.V_drew HO490.out)
   replace HO493 := zM (Kd.V_drew HO493.out)
   replace HO496 := zM (Kd.N_drew HO496.out)
   replace BK437 := zM (blk_drew BK437.out)
   replace BK438 := zM (blk_drew BK438.out)
   replace BK439 := zM (blk_drew BK439.out)
   replace BK467 := zM (blk_drew BK467.out)
   replace BK471 := zM (blk_drew BK471.out)
   replace BK497 := zM (blk_drew BK497.out)
   replace HB := zM (below_drew1 HB.out)
   refine start_ (n := 22) (S := fun w' => w'.cell? ⟨gb471, 0, none⟩ = some (.int .i64 1) ∧ w'.cell? ⟨gb471, 1, none⟩ = some (.string (⟨#[]⟩ : ByteArray)) ∧ w'.cell? ⟨gb471, 2, none⟩ = some (.int .i64 0) ∧ w'.cell? ⟨gb471, 3, none⟩ = some (.int .i64 0) ∧ w'.cell? ⟨gb471, 4, none⟩ = some (.string (⟨#[]⟩ : ByteArray)) ∧ w'.cell? ⟨gb471, 5, none⟩ = some (.slice none 0 0) ∧ w'.cell? ⟨gb471, 6, none⟩ = some (.slice Ao41 y468.length co41) ∧ w'.cell? ⟨gb467, 0, none⟩ = some (.int .i64 t462) ∧ w'.cell? ⟨gb467, 1, none⟩ = some (.int .i64 t463) ∧ w'.cell? ⟨gb467, 2, none⟩ = some (.slice Ao35 t464.length co35) ∧ w'.cell? ⟨gb497, 0, none⟩ = some (.int .i64 2) ∧ w'.cell? ⟨gb497, 1, none⟩ = some (.string (⟨#[]⟩ : ByteArray)) ∧ w'.cell? ⟨gb497, 2, none⟩ = some (.int .i64 0) ∧ w'.cell? ⟨gb497, 3, none⟩ = some (.int .i64 0) ∧ w'.cell? ⟨gb497, 4, none⟩ = some (.string (⟨#[]⟩ : ByteArray)) ∧ w'.cell? ⟨gb497, 5, none⟩ = some (.slice none 0 0) ∧ w'.cell? ⟨gb497, 6, none⟩ = some (.slice Ao61 y494.length co61) ∧ w'.cell? ⟨gb437, 0, none⟩ = some (.int .i64 t440) ∧ w'.cell? ⟨gb437, 1, none⟩ = some (.string t441) ∧ w'.cell? ⟨gb437, 2, none⟩ = some (.int .i64 t442) ∧ w'.cell? ⟨gb437, 3, none⟩ = some (.int .i64 t443) ∧ w'.cell? ⟨gb437, 4, none⟩ = some (.string t444) ∧ w'.cell? ⟨gb437, 5, none⟩ = some (.slice Ao20 t445.length co20) ∧ w'.cell? ⟨gb437, 6, none⟩ = some (.slice Ao21 t448.length co21) ∧ w'.cell? ⟨gb438, 0, none⟩ = some (.int .i64 t451) ∧ w'.cell? ⟨gb438, 1, none⟩ = some (.string t452) ∧ w'.cell? ⟨gb438, 2, none⟩ = some (.int .i64 t453) ∧ w'.cell? ⟨gb438, 3, none⟩ = some (.int .i64 t454) ∧ w'.cell? ⟨gb438, 4, none⟩ = some (.string t455) ∧ w'.cell? ⟨gb438, 5, none⟩ = some (.slice Ao26 t456.length co26) ∧ w'.cell? ⟨gb438, 6, none⟩ = some (.slice Ao27 t459.length co27)) (ds := []) #[false, false, false, false, false, false, false, false, false, false, false, false, false, false, false, false, false, false, false, false, false, false] (by kernel_rfl) rfl rfl (zI7 BK471 (zI3 BK467 (zI7 BK497 (zI7 BK437 (zJ7 BK438))))) (fun hHeld => ?_); refine with_tabW columbariumlaw13_PredPairs.tab6 columbariumlaw13_PredPairs.bits6 (fun HT_ HW_ => ?_)
   generalize w84.drew = w85 at HO447 HO450 HO458 HO461 HO466 HO470 HO479 HO482 HO490 HO493 HO496 BK437 BK438 BK439 BK467 BK471 BK497 HB hHeld ⊢
   refine take_ (i := 0) (N := some 36) (v := ?_) (a' := ?_) #[true, false, false, false, false, false, false, false, false, false, false, false, false, false, false, false, false, false, false, false, false, false] rfl rfl (take_ofW HT_.out HW_.out (by kernel_rfl)) (fun _ _ _ h => h) (Or.inl ⟨by rfl, ?_⟩) hHeld ?_ ?_
   rotate_left
   ·rintro w' ⟨s0, s1, s2, s3, s4, s5, s6, s7, s8, s9, s10, s11, s12, s13, s14, s15, s16, s17, s18, s19, s20, s21, s22, s23, s24, s25, s26, s27, s28, s29, s30⟩
    go_simp
    with_reducible rfl
   rotate_left
   ·simp only [Act.put, List.setIfInBounds_toArray, List.set_cons_zero, List.set_cons_succ, i64_w, i32_w]
    rfl
   refine take_ (i := 2) (N := some 38) (v := ?_) (a' := ?_) #[true, false, true, false, false, false, false, false, false, false, false, false, false, false, false, false, false, false, false, false, false, false] rfl rfl (take_ofW HT_.out HW_.out (by kernel_rfl)) (fun _ _ _ h => h) (Or.inl ⟨by rfl, ?_⟩) hHeld ?_ ?_
   rotate_left
   ·rintro w' ⟨s0, s1, s2, s3, s4, s5, s6, s7, s8, s9, s10, s11, s12, s13, s14, s15, s16, s17, s18, s19, s20, s21, s22, s23, s24, s25, s26, s27, s28, s29, s30⟩
    go_simp
    with_reducible rfl
   rotate_left
   ·simp only [Act.put, List.setIfInBounds_toArray, List.set_cons_zero, List.set_cons_succ, i64_w, i32_w]
    rfl
   refine take_ (i := 4) (N := some 40) (v := ?_) (a' := ?_) #[true, false, true, false, true, false, false, false, false, false, false, false, false, false, false, false, false, false, false, false, false, false] rfl rfl (take_ofW HT_.out HW_.out (by kernel_rfl)) (fun _ _ _ h => h) (Or.inl ⟨by rfl, ?_⟩) hHeld ?_ ?_
   rotate_left
   ·rintro w' ⟨s0, s1, s2, s3, s4, s5, s6, s7, s8, s9, s10, s11, s12, s13, s14, s15, s16, s17, s18, s19, s20, s21, s22, s23, s24, s25, s26, s27, s28, s29, s30⟩
    go_simp
    with_reducible rfl
   rotate_left
   ·simp only [Act.put, List.setIfInBounds_toArray, List.set_cons_zero, List.set_cons_succ, i64_w, i32_w]
    rfl
   refine take_ (i := 5) (N := some 41) (v := ?_) (a' := ?_) #[true, false, true, false, true, true, false, false, false, false, false, false, false, false, false, false, false, false, false, false, false, false] rfl rfl (take_ofW HT_.out HW_.out (by kernel_rfl)) (fun _ _ _ h => h) (Or.inl ⟨by rfl, ?_⟩) hHeld ?_ ?_
   rotate_left
   ·rintro w' ⟨s0, s1, s2, s3, s4, s5, s6, s7, s8, s9, s10, s11, s12, s13, s14, s15, s16, s17, s18, s19, s20, s21, s22, s23, s24, s25, s26, s27, s28, s29, s30⟩
    go_simp
    with_reducible rfl
   rotate_left
   ·simp only [Act.put, List.setIfInBounds_toArray, List.set_cons_zero, List.set_cons_succ, i64_w, i32_w]
    rfl
   refine one_ (i := 1) (N := some 37) #[true, true, true, false, true, true, false, false, false, false, false, false, false, false, false, false, false, false, false, false, false, false] rfl rfl (one_of HT_.out (by kernel_rfl)) (by decide) (fun K hK => ?_)
   refine goes_ Try.func16 (by kernel_rfl) rfl #[.agg #[.int .i64 1, .string (⟨#[]⟩ : ByteArray), .int .i64 0, .int .i64 0, .string (⟨#[]⟩ : ByteArray), .slice none 0 0, .slice Ao41 y468.length co41], .int .i64 1] (by rfl) rfl rfl yb ?_
   refine (columbariumlaw13_nots.calls k 1 (⟨#[]⟩ : ByteArray) 0 0 (⟨#[]⟩ : ByteArray) (fun k_ => False) _ _ ([] : List ByteArray) (fun k_ => (nb k_ Ao35 t464.length co35 ∧ (nb k_ Ao61 y494.length co61 ∧ (k_ ≠ gb437 ∧ (k_ ≠ gb438 ∧ (k_ ≠ gb439 ∧ (k_ ≠ gb467 ∧ (k_ ≠ gb471 ∧ k_ ≠ gb497)))))))) _ _ y468 1 t498 t499 t500 t501 t502 t503 t506 _ ?side1 ?side2 A69.out).mono ?_
   (case side1 => exact Kd.V_nil _ _ _ _ _)
   (case side2 => exact Kd.N_V (HO470.out))
   rintro e w86 ⟨v504, v507, rfl, ho0, ho1, hb⟩
   refine ⟨_, rfl, ?_⟩
   replace HO447 := zV HO447 hb
   replace HO450 := zV HO450 hb
   replace HO458 := zV HO458 hb
   replace HO461 := zV HO461 hb
   replace HO470 := zN HO470 hb
   replace HO479 := zV HO479 hb
   replace HO482 := zV HO482 hb
   replace HO490 := zV HO490 hb
   replace HO493 := zV HO493 hb
   have HO505 := zM (Kd.V_lower (Kd.V_mono (ok' := fun k_ => nb k_ Ao35 t464.length co35 ∧ nb k_ Ao61 y494.length co61 ∧ k_ ≠ gb437 ∧ k_ ≠ gb438 ∧ k_ ≠ gb439 ∧ k_ ≠ gb467 ∧ k_ ≠ gb471 ∧ k_ ≠ gb497) ho0 (fun k_ hk_ => Or.elim hk_ (fun hs_ => Or.elim hs_ (fun hs_ => ⟨(hs_).elim, (hs_).elim, (hs_).elim, (hs_).elim, (hs_).elim, (hs_).elim, (hs_).elim, (hs_).elim⟩) (fun hs_ => ⟨hs_.1, hs_.2.1, hs_.2.2.1, hs_.2.2.2.1, hs_.2.2.2.2.1, hs_.2.2.2.2.2.1, hs_.2.2.2.2.2.2.1, hs_.2.2.2.2.2.2.2⟩)) (fun hn_ => ⟨(fR HO466 hn_), (fN HO496 hn_), (fK BK437 hn_), (fK BK438 hn_), (fK BK439 hn_), (fK BK467 hn_), (fK BK471 hn_), (fK BK497 hn_)⟩))) (below_size mZ))
   have HO508 := zM (Kd.V_lower (Kd.V_mono (ok' := fun k_ => nb k_ Ao35 t464.length co35 ∧ nb k_ Ao61 y494.length co61 ∧ k_ ≠ gb437 ∧ k_ ≠ gb438 ∧ k_ ≠ gb439 ∧ k_ ≠ gb467 ∧ k_ ≠ gb471 ∧ k_ ≠ gb497) ho1 (fun k_ hk_ => Or.elim hk_ (fun hs_ => Or.elim hs_ (fun hs_ => ⟨(hs_).elim, (hs_).elim, (hs_).elim, (hs_).elim, (hs_).elim, (hs_).elim, (hs_).elim, (hs_).elim⟩) (fun hs_ => ⟨hs_.1, hs_.2.1, hs_.2.2.1, hs_.2.2.2.1, hs_.2.2.2.2.1, hs_.2.2.2.2.2.1, hs_.2.2.2.2.2.2.1, hs_.2.2.2.2.2.2.2⟩)) (fun hn_ => ⟨(fR HO466 hn_), (fN HO496 hn_), (fK BK437 hn_), (fK BK438 hn_), (fK BK439 hn_), (fK BK467 hn_), (fK BK471 hn_), (fK BK497 hn_)⟩))) (below_size mZ))
   replace HO466 := zR HO466 hb
   replace HO496 := zN HO496 hb
   replace BK437 := zK BK437 hb
   replace BK438 := zK BK438 hb
   replace BK439 := zK BK439 hb
   replace BK467 := zK BK467 hb
   replace BK471 := zK BK471 hb
   replace BK497 := zK BK497 hb
   replace HB := zM (below_step mZ hb)
   (try clear hb)
   (try clear hb2)
   (try clear hk)
   (try clear hi)
   (try clear ho0)
   (try clear ho1)
   obtain ⟨Ao87, co87, eo87⟩ := Kd.V_slice HO505.out
   (first | subst eo87 | (injection eo87 with f1_ f2_ f3_; have f4_ := f1_.symm; have f5_ := f3_.symm; clear f1_ f2_ f3_; subst f4_; subst f5_))
   obtain ⟨Ao88, co88, eo88⟩ := Kd.V_slice HO508.out
   (first | subst eo88 | (injection eo88 with f1_ f2_ f3_; have f4_ := f1_.symm; have f5_ := f3_.symm; clear f1_ f2_ f3_; subst f4_; subst f5_))
   refine hK.out _ _ (zI7 BK471 (zI3 BK467 (zI7 BK497 (zI7 BK437 (zJ7 BK438))))) (fun hHeld => ?_)
   clear hK K
   refine norm_ (a' := ?_) ?_ ?_
   rotate_left
   ·show Act.put _ (some 37) _ = _
    simp only [Act.put, List.setIfInBounds_toArray, List.set_cons_zero, List.set_cons_succ, i64_w, i32_w]
    rfl
   refine one_ (i := 3) (N := some 39) #[true, true, true, true, true, true, false, false, false, false, false, false, false, false, false, false, false, false, false, false, false, false] rfl rfl (one_of HT_.out (by kernel_rfl)) (by decide) (fun K hK => ?_)
   refine goes_ Try.func15 (by kernel_rfl) rfl #[.agg #[.int .i64 t498, .string t499, .int .i64 t500, .int .i64 t501, .string t502, .slice Ao87 t503.length co87, .slice Ao88 t506.length co88], .agg #[.int .i64 t462, .int .i64 t463, .slice Ao35 t464.length co35]] (by rfl) rfl rfl yb ?_
   with_reducible refine (pred_Eval.calls k t498 t499 t500 t501 t502 _ _ t503 _ _ t506 t462 t463 _ _ t464 t509 _ ?side1 ?side2 ?side3 ?side4 ?side5 ?side6 A70.out).mono ?_
   (case side1 => exact zC ((Kd.V_reads' HO505.out).2.2))
   (case side2 => exact (Kd.V_reads' HO505.out).2.1)
   (case side3 => exact zC ((Kd.V_reads' HO508.out).2.2))
   (case side4 => exact (Kd.V_reads' HO508.out).2.1)
   (case side5 => exact zC ((Kd.R_reads' HO466.out).2.2))
   (case side6 => exact (Kd.R_reads' HO466.out).2.1)
   rintro e w89 ⟨rfl, hb⟩
   refine ⟨_, rfl, ?_⟩
   replace HO447 := zV HO447 hb
   replace HO450 := zV HO450 hb
   replace HO458 := zV HO458 hb
   replace HO461 := zV HO461 hb
   replace HO466 := zR HO466 hb
   replace HO470 := zN HO470 hb
   replace HO479 := zV HO479 hb
   replace HO482 := zV HO482 hb
   replace HO490 := zV HO490 hb
   replace HO493 := zV HO493 hb
   replace HO496 := zN HO496 hb
   replace HO505 := zV HO505 hb
   replace HO508 := zV HO508 hb
   replace BK437 := zK BK437 hb
   replace BK438 := zK BK438 hb
   replace BK439 := zK BK439 hb
   replace BK467 := zK BK467 hb
   replace BK471 := zK BK471 hb
   replace BK497 := zK BK497 hb
   replace HB := zM (below_step mZ hb)
   (try clear hb)
   (try clear hb2)
   (try clear hk)
   (try clear hi)
   refine hK.out _ _ (zI7 BK471 (zI3 BK467 (zI7 BK497 (zI7 BK437 (zJ7 BK438))))) (fun hHeld => ?_)
   clear hK K
   refine norm_ (a' := ?_) ?_ ?_
   rotate_left
   ·show Act.put _ (some 39) _ = _
    simp only [Act.put, List.setIfInBounds_toArray, List.set_cons_zero, List.set_cons_succ, i64_w, i32_w]
    rfl
   refine one_ (i := 6) (N := some 42) #[true, true, true, true, true, true, true, false, false, false, false, false, false, false, false, false, false, false, false, false, false, false] rfl rfl (one_of HT_.out (by kernel_rfl)) (by decide) (fun K hK => ?_)
   refine goes_ Try.func15 (by kernel_rfl) rfl #[.agg #[.int .i64 2, .string (⟨#[]⟩ : ByteArray), .int .i64 0, .int .i64 0, .string (⟨#[]⟩ : ByteArray), .slice none 0 0, .slice Ao61 y494.length co61], .agg #[.int .i64 t462, .int .i64 t463, .slice Ao35 t464.length co35]] (by rfl) rfl rfl yb ?_
   refine (pred_Eval.calls k 2 (⟨#[]⟩ : ByteArray) 0 0 (⟨#[]⟩ : ByteArray) _ _ ([] : List ByteArray) _ _ y494 t462 t463 _ _ t464 t510 _ ?side1 ?side2 ?side3 ?side4 ?side5 ?side6 A71.out).mono ?_
   (case side1 => exact Kd.C_nil _ _)
   (case side2 => exact Nat.le_refl _)
   (case side3 => exact zC ((Kd.N_reads' HO496.out).2.2))
   (case side4 => exact (Kd.N_reads' HO496.out).2.1)
   (case side5 => exact zC ((Kd.R_reads' HO466.out).2.2))
   (case side6 => exact (Kd.R_reads' HO466.out).2.1)
   rintro e w90 ⟨rfl, hb⟩
   refine ⟨_, rfl, ?_⟩
   replace HO447 := zV HO447 hb
   replace HO450 := zV HO450 hb
   replace HO458 := zV HO458 hb
   replace HO461 := zV HO461 hb
   replace HO466 := zR HO466 hb
   replace HO470 := zN HO470 hb
   replace HO479 := zV HO479 hb
   replace HO482 := zV HO482 hb
   replace HO490 := zV HO490 hb
   replace HO493 := zV HO493 hb
   replace HO496 := zN HO496 hb
   replace HO505 := zV HO505 hb
   replace HO508 := zV HO508 hb
   replace BK437 := zK BK437 hb
   replace BK438 := zK BK438 hb
   replace BK439 := zK BK439 hb
   replace BK467 := zK BK467 hb
   replace BK471 := zK BK471 hb
   replace BK497 := zK BK497 hb
   replace HB := zM (below_step mZ hb)
   (try clear hb)
   (try clear hb2)
   (try clear hk)
   (try clear hi)
   refine hK.out _ _ (zI7 BK471 (zI3 BK467 (zI7 BK497 (zI7 BK437 (zJ7 BK438))))) (fun hHeld => ?_)
   clear hK K
   refine norm_ (a' := ?_) ?_ ?_
   rotate_left
   ·show Act.put _ (some 42) _ = _
    simp only [Act.put, List.setIfInBounds_toArray, List.set_cons_zero, List.set_cons_succ, i64_w, i32_w]
    rfl
   refine pure_ (i := 7) (N := some 43) (v := ?_) (a' := ?_) #[true, true, true, true, true, true, true, true, false, false, false, false, false, false, false, false, false, false, false, false, false, false] rfl rfl (any_of HT_.out (by kernel_rfl)) (fun _ _ _ h => h) (Or.inl ⟨by rfl, ?_⟩) ?_ ?_
   rotate_left
   ·intro w'
    go_simp
    with_reducible rfl
   rotate_left
   ·simp only [Act.put, List.setIfInBounds_toArray, List.set_cons_zero, List.set_cons_succ, i64_w, i32_w]
    rfl
   refine pure_ (i := 8) (N := some 44) (v := ?_) (a' := ?_) #[true, true, true, true, true, true, true, true, true, false, false, false, false, false, false, false, false, false, false, false, false, false] rfl rfl (any_of HT_.out (by kernel_rfl)) (fun _ _ _ h => h) (Or.inl ⟨by rfl, ?_⟩) ?_ ?_
   rotate_left
   ·intro w'
    go_simp
    with_reducible rfl
   rotate_left
   ·simp only [Act.put, List.setIfInBounds_toArray, List.set_cons_zero, List.set_cons_succ, i64_w, i32_w]
    rfl
   refine take_ (i := 9) (N := some 45) (v := ?_) (a' := ?_) #[true, true, true, true, true, true, true, true, true, true, false, false, false, false, false, false, false, false, false, false, false, false] rfl rfl (take_ofW HT_.out HW_.out (by kernel_rfl)) (fun _ _ _ h => h) (Or.inl ⟨by rfl, ?_⟩) hHeld ?_ ?_
   rotate_left
   ·rintro w' ⟨s0, s1, s2, s3, s4, s5, s6, s7, s8, s9, s10, s11, s12, s13, s14, s15, s16, s17, s18, s19, s20, s21, s22, s23, s24, s25, s26, s27, s28, s29, s30⟩
    go_simp
    with_reducible rfl
   rotate_left
   ·simp only [Act.put, List.setIfInBounds_toArray, List.set_cons_zero, List.set_cons_succ, i64_w, i32_w]
    rfl
   refine take_ (i := 10) (N := some 46) (v := ?_) (a' := ?_) #[true, true, true, true, true, true, true, true, true, true, true, false, false, false, false, false, false, false, false, false, false, false] rfl rfl (take_ofW HT_.out HW_.out (by kernel_rfl)) (fun _ _ _ h => h) (Or.inl ⟨by rfl, ?_⟩) hHeld ?_ ?_
   rotate_left
   ·rintro w' ⟨s0, s1, s2, s3, s4, s5, s6, s7, s8, s9, s10, s11, s12, s13, s14, s15, s16, s17, s18, s19, s20, s21, s22, s23, s24, s25, s26, s27, s28, s29, s30⟩
    go_simp
    with_reducible rfl
   rotate_left
   ·simp only [Act.put, List.setIfInBounds_toArray, List.set_cons_zero, List.set_cons_succ, i64_w, i32_w]
    rfl
   refine take_ (i := 12) (N := some 48) (v := ?_) (a' := ?_) #[true, true, true, true, true, true, true, true, true, true, true, false, true, false, false, false, false, false, false, false, false, false] rfl rfl (take_ofW HT_.out HW_.out (by kernel_rfl)) (fun _ _ _ h => h) (Or.inl ⟨by rfl, ?_⟩) hHeld ?_ ?_
   rotate_left
   ·rintro w' ⟨s0, s1, s2, s3, s4, s5, s6, s7, s8, s9, s10, s11, s12, s13, s14, s15, s16, s17, s18, s19, s20, s21, s22, s23, s24, s25, s26, s27, s28, s29, s30⟩
    go_simp
    with_reducible rfl
   rotate_left
   ·simp only [Act.put, List.setIfInBounds_toArray, List.set_cons_zero, List.set_cons_succ, i64_w, i32_w]
    rfl
   refine take_ (i := 13) (N := some 49) (v := ?_) (a' := ?_) #[true, true, true, true, true, true, true, true, true, true, true, false, true, true, false, false, false, false, false, false, false, false] rfl rfl (take_ofW HT_.out HW_.out (by kernel_rfl)) (fun _ _ _ h => h) (Or.inl ⟨by rfl, ?_⟩) hHeld ?_ ?_
   rotate_left
   ·rintro w' ⟨s0, s1, s2, s3, s4, s5, s6, s7, s8, s9, s10, s11, s12, s13, s14, s15, s16, s17, s18, s19, s20, s21, s22, s23, s24, s25, s26, s27, s28, s29, s30⟩
    go_simp
    with_reducible rfl
   rotate_left
   ·simp only [Act.put, List.setIfInBounds_toArray, List.set_cons_zero, List.set_cons_succ, i64_w, i32_w]
    rfl
   refine one_ (i := 11) (N := some 47) #[true, true, true, true, true, true, true, true, true, true, true, true, true, true, false, false, false, false, false, false, false, false] rfl rfl (one_of HT_.out (by kernel_rfl)) (by decide) (fun K hK => ?_)
   refine goes_ Try.func15 (by kernel_rfl) rfl #[.agg #[.int .i64 1, .string (⟨#[]⟩ : ByteArray), .int .i64 0, .int .i64 0, .string (⟨#[]⟩ : ByteArray), .slice none 0 0, .slice Ao41 y468.length co41], .agg #[.int .i64 t462, .int .i64 t463, .slice Ao35 t464.length co35]] (by rfl) rfl rfl yb ?_
   refine (pred_Eval.calls k 1 (⟨#[]⟩ : ByteArray) 0 0 (⟨#[]⟩ : ByteArray) _ _ ([] : List ByteArray) _ _ y468 t462 t463 _ _ t464 t511 _ ?side1 ?side2 ?side3 ?side4 ?side5 ?side6 A80.out).mono ?_
   (case side1 => exact Kd.C_nil _ _)
   (case side2 => exact Nat.le_refl _)
   (case side3 => exact zC ((Kd.N_reads' HO470.out).2.2))
   (case side4 => exact (Kd.N_reads' HO470.out).2.1)
   (case side5 => exact zC ((Kd.R_reads' HO466.out).2.2))
   (case side6 => exact (Kd.R_reads' HO466.out).2.1)
   rintro e w91 ⟨rfl, hb⟩
   refine ⟨_, rfl, ?_⟩
   replace HO447 := zV HO447 hb
   replace HO450 := zV HO450 hb
   replace HO458 := zV HO458 hb
   replace HO461 := zV HO461 hb
   replace HO466 := zR HO466 hb
   replace HO470 := zN HO470 hb
   replace HO479 := zV HO479 hb
   replace HO482 := zV HO482 hb
   replace HO490 := zV HO490 hb
   replace HO493 := zV HO493 hb
   replace HO496 := zN HO496 hb
   replace HO505 := zV HO505 hb
   replace HO508 := zV HO508 hb
   replace BK437 := zK BK437 hb
   replace BK438 := zK BK438 hb
   replace BK439 := zK BK439 hb
   replace BK467 := zK BK467 hb
   replace BK471 := zK BK471 hb
   replace BK497 := zK BK497 hb
   replace HB := zM (below_step mZ hb)
   (try clear hb)
   (try clear hb2)
   (try clear hk)
   (try clear hi)
   refine hK.out _ _ (zI7 BK471 (zI3 BK467 (zI7 BK497 (zI7 BK437 (zJ7 BK438))))) (fun hHeld => ?_)
   clear hK K
   refine norm_ (a' := ?_) ?_ ?_
   rotate_left
   ·show Act.put _ (some 47) _ = _
    simp only [Act.put, List.setIfInBounds_toArray, List.set_cons_zero, List.set_cons_succ, i64_w, i32_w]
    rfl
   refine one_ (i := 14) (N := some 50) #[true, true, true, true, true, true, true, true, true, true, true, true, true, true, true, false, false, false, false, false, false, false] rfl rfl (one_of HT_.out (by kernel_rfl)) (by decide) (fun K hK => ?_)
   refine goes_ Try.func15 (by kernel_rfl) rfl #[.agg #[.int .i64 t440, .string t441, .int .i64 t442, .int .i64 t443, .string t444, .slice Ao20 t445.length co20, .slice Ao21 t448.length co21], .agg #[.int .i64 t462, .int .i64 t463, .slice Ao35 t464.length co35]] (by rfl) rfl rfl yb ?_
   with_reducible refine (pred_Eval.calls k t440 t441 t442 t443 t444 _ _ t445 _ _ t448 t462 t463 _ _ t464 true _ ?side1 ?side2 ?side3 ?side4 ?side5 ?side6 A81.out).mono ?_
   (case side1 => exact zC ((Kd.V_reads' HO447.out).2.2))
   (case side2 => exact (Kd.V_reads' HO447.out).2.1)
   (case side3 => exact zC ((Kd.V_reads' HO450.out).2.2))
   (case side4 => exact (Kd.V_reads' HO450.out).2.1)
   (case side5 => exact zC ((Kd.R_reads' HO466.out).2.2))
   (case side6 => exact (Kd.R_reads' HO466.out).2.1)
   rintro e w92 ⟨rfl, hb⟩
   refine ⟨_, rfl, ?_⟩
   replace HO447 := zV HO447 hb
   replace HO450 := zV HO450 hb
   replace HO458 := zV HO458 hb
   replace HO461 := zV HO461 hb
   replace HO466 := zR HO466 hb
   replace HO470 := zN HO470 hb
   replace HO479 := zV HO479 hb
   replace HO482 := zV HO482 hb
   replace HO490 := zV HO490 hb
   replace HO493 := zV HO493 hb
   replace HO496 := zN HO496 hb
   replace HO505 := zV HO505 hb
   replace HO508 := zV HO508 hb
   replace BK437 := zK BK437 hb
   replace BK438 := zK BK438 hb
   replace BK439 := zK BK439 hb
   replace BK467 := zK BK467 hb
   replace BK471 := zK BK471 hb
   replace BK497 := zK BK497 hb
   replace HB := zM (below_step mZ hb)
   (try clear hb)
   (try clear hb2)
   (try clear hk)
   (try clear hi)
   refine hK.out _ _ (zI7 BK471 (zI3 BK467 (zI7 BK497 (zI7 BK437 (zJ7 BK438))))) (fun hHeld => ?_)
   clear hK K
   refine norm_ (a' := ?_) ?_ ?_
   rotate_left
   ·show Act.put _ (some 50) _ = _
    simp only [Act.put, List.setIfInBounds_toArray, List.set_cons_zero, List.set_cons_succ, i64_w, i32_w]
    rfl
   refine pure_ (i := 15) (N := some 51) (v := ?_) (a' := ?_) #[true, true, true, true, true, true, true, true, true, true, true, true, true, true, true, true, false, false, false, false, false, false] rfl rfl (any_of HT_.out (by kernel_rfl)) (fun _ _ _ h => h) (Or.inl ⟨by rfl, ?_⟩) ?_ ?_
   rotate_left
   ·intro w'
    go_simp
    with_reducible rfl
   rotate_left
   ·simp only [Act.put, List.setIfInBounds_toArray, List.set_cons_zero, List.set_cons_succ, i64_w, i32_w]
    rfl
   refine take_ (i := 16) (N := some 52) (v := ?_) (a' := ?_) #[true, true, true, true, true, true, true, true, true, true, true, true, true, true, true, true, true, false, false, false, false, false] rfl rfl (take_ofW HT_.out HW_.out (by kernel_rfl)) (fun _ _ _ h => h) (Or.inl ⟨by rfl, ?_⟩) hHeld ?_ ?_
   rotate_left
   ·rintro w' ⟨s0, s1, s2, s3, s4, s5, s6, s7, s8, s9, s10, s11, s12, s13, s14, s15, s16, s17, s18, s19, s20, s21, s22, s23, s24, s25, s26, s27, s28, s29, s30⟩
    go_simp
    with_reducible rfl
   rotate_left
   ·simp only [Act.put, List.setIfInBounds_toArray, List.set_cons_zero, List.set_cons_succ, i64_w, i32_w]
    rfl
   refine take_ (i := 17) (N := some 53) (v := ?_) (a' := ?_) #[true, true, true, true, true, true, true, true, true, true, true, true, true, true, true, true, true, true, false, false, false, false] rfl rfl (take_ofW HT_.out HW_.out (by kernel_rfl)) (fun _ _ _ h => h) (Or.inl ⟨by rfl, ?_⟩) hHeld ?_ ?_
   rotate_left
   ·rintro w' ⟨s0, s1, s2, s3, s4, s5, s6, s7, s8, s9, s10, s11, s12, s13, s14, s15, s16, s17, s18, s19, s20, s21, s22, s23, s24, s25, s26, s27, s28, s29, s30⟩
    go_simp
    with_reducible rfl
   rotate_left
   ·simp only [Act.put, List.setIfInBounds_toArray, List.set_cons_zero, List.set_cons_succ, i64_w, i32_w]
    rfl
   refine one_ (i := 18) (N := some 54) #[true, true, true, true, true, true, true, true, true, true, true, true, true, true, true, true, true, true, true, false, false, false] rfl rfl (one_of HT_.out (by kernel_rfl)) (by decide) (fun K hK => ?_)
   refine goes_ Try.func15 (by kernel_rfl) rfl #[.agg #[.int .i64 t451, .string t452, .int .i64 t453, .int .i64 t454, .string t455, .slice Ao26 t456.length co26, .slice Ao27 t459.length co27], .agg #[.int .i64 t462, .int .i64 t463, .slice Ao35 t464.length co35]] (by rfl) rfl rfl yb ?_
   with_reducible refine (pred_Eval.calls k t451 t452 t453 t454 t455 _ _ t456 _ _ t459 t462 t463 _ _ t464 t513 _ ?side1 ?side2 ?side3 ?side4 ?side5 ?side6 A83.out).mono ?_
   (case side1 => exact zC ((Kd.V_reads' HO458.out).2.2))
   (case side2 => exact (Kd.V_reads' HO458.out).2.1)
   (case side3 => exact zC ((Kd.V_reads' HO461.out).2.2))
   (case side4 => exact (Kd.V_reads' HO461.out).2.1)
   (case side5 => exact zC ((Kd.R_reads' HO466.out).2.2))
   (case side6 => exact (Kd.R_reads' HO466.out).2.1)
   rintro e w93 ⟨rfl, hb⟩
   refine ⟨_, rfl, ?_⟩
   replace HO447 := zV HO447 hb
   replace HO450 := zV HO450 hb
   replace HO458 := zV HO458 hb
   replace HO461 := zV HO461 hb
   replace HO466 := zR HO466 hb
   replace HO470 := zN HO470 hb
   replace HO479 := zV HO479 hb
   replace HO482 := zV HO482 hb
   replace HO490 := zV HO490 hb
   replace HO493 := zV HO493 hb
   replace HO496 := zN HO496 hb
   replace HO505 := zV HO505 hb
   replace HO508 := zV HO508 hb
   replace BK437 := zK BK437 hb
   replace BK438 := zK BK438 hb
   replace BK439 := zK BK439 hb
   replace BK467 := zK BK467 hb
   replace BK471 := zK BK471 hb
   replace BK497 := zK BK497 hb
   replace HB := zM (below_step mZ hb)
   (try clear hb)
   (try clear hb2)
   (try clear hk)
   (try clear hi)
   refine hK.out _ _ (zI7 BK471 (zI3 BK467 (zI7 BK497 (zI7 BK437 (zJ7 BK438))))) (fun hHeld => ?_)
   clear hK K
   refine norm_ (a' := ?_) ?_ ?_
   rotate_left
   ·show Act.put _ (some 54) _ = _
    simp only [Act.put, List.setIfInBounds_toArray, List.set_cons_zero, List.set_cons_succ, i64_w, i32_w]
    rfl
   refine pure_ (i := 19) (N := some 55) (v := ?_) (a' := ?_) #[true, true, true, true, true, true, true, true, true, true, true, true, true, true, true, true, true, true, true, true, false, false] rfl rfl (any_of HT_.out (by kernel_rfl)) (fun _ _ _ h => h) (Or.inl ⟨by rfl, ?_⟩) ?_ ?_
   rotate_left
   ·intro w'
    go_simp
    with_reducible rfl
   rotate_left
   ·simp only [Act.put, List.setIfInBounds_toArray, List.set_cons_zero, List.set_cons_succ, i64_w, i32_w]
    rfl
   refine pure_ (i := 20) (N := some 56) (v := ?_) (a' := ?_) #[true, true, true, true, true, true, true, true, true, true, true, true, true, true, true, true, true, true, true, true, true, false] rfl rfl (any_of HT_.out (by kernel_rfl)) (fun _ _ _ h => h) (Or.inl ⟨by rfl, ?_⟩) ?_ ?_
   rotate_left
   ·intro w'
    go_simp
    with_reducible rfl
   rotate_left
   ·simp only [Act.put, List.setIfInBounds_toArray, List.set_cons_zero, List.set_cons_succ, i64_w, i32_w]
    rfl
   refine pure_ (i := 21) (N := some 57) (v := ?_) (a' := ?_) #[true, true, true, true, true, true, true, true, true, true, true, true, true, true, true, true, true, true, true, true, true, true] rfl rfl (any_of HT_.out (by kernel_rfl)) (fun _ _ _ h => h) (Or.inl ⟨by rfl, ?_⟩) ?_ ?_
   rotate_left
   ·intro w'
    go_simp
    with_reducible rfl
   rotate_left
   ·simp only [Act.put, List.setIfInBounds_toArray, List.set_cons_zero, List.set_cons_succ, i64_w, i32_w]
    rfl
   refine done_ (done_of HT_.out (by kernel_rfl)) ?_
   try go_wp2
   go_meet
   case rel => exact ⟨_, ((t511 != t513)), ya, H', ⟨by first | omega | exact Nat.le_refl _⟩, ⟨yV HO447 (fun _ hk => ⟨hk.2.2.2.1, ⟨hk.2.2.2.2.1, ⟨hk.2.2.2.2.2.1, ⟨hk.2.2.2.2.2.2.1, ⟨hk.2.2.2.2.2.2.2.1, ⟨hk.2.2.2.2.2.2.2.2.1, ⟨hk.2.2.2.2.2.2.2.2.2.1, ⟨hk.2.2.2.2.2.2.2.2.2.2.1, hk.2.2.2.2.2.2.2.2.2.2.2⟩⟩⟩⟩⟩⟩⟩⟩)⟩, ⟨yV HO450 (fun _ hk => ⟨hk.2.2.2.1, ⟨hk.2.2.2.2.1, ⟨hk.2.2.2.2.2.1, ⟨hk.2.2.2.2.2.2.1, ⟨hk.2.2.2.2.2.2.2.1, ⟨hk.2.2.2.2.2.2.2.2.1, ⟨hk.2.2.2.2.2.2.2.2.2.1, ⟨hk.2.2.2.2.2.2.2.2.2.2.1, hk.2.2.2.2.2.2.2.2.2.2.2⟩⟩⟩⟩⟩⟩⟩⟩)⟩, ⟨yV HO458 (fun _ hk => ⟨hk.2.2.1, ⟨hk.2.2.2.1, ⟨hk.2.2.2.2.1, ⟨hk.2.2.2.2.2.1, ⟨hk.2.2.2.2.2.2.1, ⟨hk.2.2.2.2.2.2.2.1, ⟨hk.2.2.2.2.2.2.2.2.1, ⟨hk.2.2.2.2.2.2.2.2.2.1, hk.2.2.2.2.2.2.2.2.2.2⟩⟩⟩⟩⟩⟩⟩⟩)⟩, ⟨yV HO461 (fun _ hk => ⟨hk.2.2.2.1, ⟨hk.2.2.2.2.1, ⟨hk.2.2.2.2.2.1, ⟨hk.2.2.2.2.2.2.1, ⟨hk.2.2.2.2.2.2.2.1, ⟨hk.2.2.2.2.2.2.2.2.1, ⟨hk.2.2.2.2.2.2.2.2.2.1, ⟨hk.2.2.2.2.2.2.2.2.2.2.1, hk.2.2.2.2.2.2.2.2.2.2.2⟩⟩⟩⟩⟩⟩⟩⟩)⟩, ⟨mR HO466.out⟩, ⟨mN HO470.out⟩, ⟨mN HO496.out⟩, ⟨mK BK437.out⟩, ⟨mK BK438.out⟩, ⟨mK BK439.out⟩, ⟨mK BK467.out⟩, ⟨mK BK471.out⟩, ⟨mK BK497.out⟩, ⟨mZ⟩⟩
  replace c82 := Bool.eq_false_iff.mpr c82
  subst c82
  rw [if_neg (show ¬ (false = true) by decide)] at H
  have H' := Aside0.mk H
  clear H
  try go_wp2
  generalize hq_ : (((((((w60.setCell ⟨gb497, 0, none⟩ (.int .i64 2)).setCell ⟨gb497, 1, none⟩ (.string (⟨#[]⟩ : ByteArray))).setCell ⟨gb497, 2, none⟩ (.int .i64 0)).setCell ⟨gb497, 3, none⟩ (.int .i64 0)).setCell ⟨gb497, 4, none⟩ (.string (⟨#[]⟩ : ByteArray))).setCell ⟨gb497, 5, none⟩ (.slice none 0 0)).setCell ⟨gb497, 6, none⟩ (.slice Ao61 y494.length co61)) = w94
  replace HO447 := zqV7 (ok' := fun k_ => nb k_ Ao21 t448.length co21 ∧ nb k_ Ao26 t456.length co26 ∧ nb k_ Ao27 t459.length co27 ∧ nb k_ Ao35 t464.length co35 ∧ nb k_ Ao41 y468.length co41 ∧ nb k_ Ao61 y494.length co61 ∧ k_ ≠ gb437 ∧ k_ ≠ gb438 ∧ k_ ≠ gb439 ∧ k_ ≠ gb467 ∧ k_ ≠ gb471 ∧ k_ ≠ gb497) hq_ HO447 (fun _ hk => hk.2.2.2.2.2.2.2.2.2.2.2) (fun _ hk => ⟨hk.1.1, ⟨hk.1.2.1, ⟨hk.1.2.2.1, ⟨hk.1.2.2.2.1, ⟨hk.1.2.2.2.2.1, ⟨hk.1.2.2.2.2.2.1, ⟨hk.1.2.2.2.2.2.2.1, ⟨hk.1.2.2.2.2.2.2.2.1, ⟨hk.1.2.2.2.2.2.2.2.2.1, ⟨hk.1.2.2.2.2.2.2.2.2.2.1, ⟨hk.1.2.2.2.2.2.2.2.2.2.2.1, hk.1.2.2.2.2.2.2.2.2.2.2.2⟩⟩⟩⟩⟩⟩⟩⟩⟩⟩⟩)
  replace HO450 := zqV7 (ok' := fun k_ => nb k_ Ao20 t445.length co20 ∧ nb k_ Ao26 t456.length co26 ∧ nb k_ Ao27 t459.length co27 ∧ nb k_ Ao35 t464.length co35 ∧ nb k_ Ao41 y468.length co41 ∧ nb k_ Ao61 y494.length co61 ∧ k_ ≠ gb437 ∧ k_ ≠ gb438 ∧ k_ ≠ gb439 ∧ k_ ≠ gb467 ∧ k_ ≠ gb471 ∧ k_ ≠ gb497) hq_ HO450 (fun _ hk => hk.2.2.2.2.2.2.2.2.2.2.2) (fun _ hk => ⟨hk.1.1, ⟨hk.1.2.1, ⟨hk.1.2.2.1, ⟨hk.1.2.2.2.1, ⟨hk.1.2.2.2.2.1, ⟨hk.1.2.2.2.2.2.1, ⟨hk.1.2.2.2.2.2.2.1, ⟨hk.1.2.2.2.2.2.2.2.1, ⟨hk.1.2.2.2.2.2.2.2.2.1, ⟨hk.1.2.2.2.2.2.2.2.2.2.1, ⟨hk.1.2.2.2.2.2.2.2.2.2.2.1, hk.1.2.2.2.2.2.2.2.2.2.2.2⟩⟩⟩⟩⟩⟩⟩⟩⟩⟩⟩)
  replace HO458 := zqV7 (ok' := fun k_ => nb k_ Ao20 t445.length co20 ∧ nb k_ Ao27 t459.length co27 ∧ nb k_ Ao35 t464.length co35 ∧ nb k_ Ao41 y468.length co41 ∧ nb k_ Ao61 y494.length co61 ∧ k_ ≠ gb437 ∧ k_ ≠ gb438 ∧ k_ ≠ gb439 ∧ k_ ≠ gb467 ∧ k_ ≠ gb471 ∧ k_ ≠ gb497) hq_ HO458 (fun _ hk => hk.2.2.2.2.2.2.2.2.2.2) (fun _ hk => ⟨hk.1.1, ⟨hk.1.2.1, ⟨hk.1.2.2.1, ⟨hk.1.2.2.2.1, ⟨hk.1.2.2.2.2.1, ⟨hk.1.2.2.2.2.2.1, ⟨hk.1.2.2.2.2.2.2.1, ⟨hk.1.2.2.2.2.2.2.2.1, ⟨hk.1.2.2.2.2.2.2.2.2.1, ⟨hk.1.2.2.2.2.2.2.2.2.2.1, hk.1.2.2.2.2.2.2.2.2.2.2⟩⟩⟩⟩⟩⟩⟩⟩⟩⟩)
  replace HO461 := zqV7 (ok' := fun k_ => nb k_ Ao20 t445.length co20 ∧ nb k_ Ao21 t448.length co21 ∧ nb k_ Ao26 t456.length co26 ∧ nb k_ Ao35 t464.length co35 ∧ nb k_ Ao41 y468.length co41 ∧ nb k_ Ao61 y494.length co61 ∧ k_ ≠ gb437 ∧ k_ ≠ gb438 ∧ k_ ≠ gb439 ∧ k_ ≠ gb467 ∧ k_ ≠ gb471 ∧ k_ ≠ gb497) hq_ HO461 (fun _ hk => hk.2.2.2.2.2.2.2.2.2.2.2) (fun _ hk => ⟨hk.1.1, ⟨hk.1.2.1, ⟨hk.1.2.2.1, ⟨hk.1.2.2.2.1, ⟨hk.1.2.2.2.2.1, ⟨hk.1.2.2.2.2.2.1, ⟨hk.1.2.2.2.2.2.2.1, ⟨hk.1.2.2.2.2.2.2.2.1, ⟨hk.1.2.2.2.2.2.2.2.2.1, ⟨hk.1.2.2.2.2.2.2.2.2.2.1, ⟨hk.1.2.2.2.2.2.2.2.2.2.2.1, hk.1.2.2.2.2.2.2.2.2.2.2.2⟩⟩⟩⟩⟩⟩⟩⟩⟩⟩⟩)
  replace HO466 : Aside0 (Kd.R k52 52 w94 w.heap.size (fun _ => True) (.slice Ao35 t464.length co35) t464) := ⟨by subst hq_; (with_reducible repeat (first | apply Kd.R_alloc | apply Kd.R_drewN | apply Kd.R_drew)); exact Kd.R_mono (zgR (Kd.R_types HO466.out BK497.out (by decide))) (fun _ hk => trivial)⟩
  replace HO470 := zqN7 (ok' := fun k_ => nb k_ Ao35 t464.length co35 ∧ nb k_ Ao61 y494.length co61 ∧ k_ ≠ gb437 ∧ k_ ≠ gb438 ∧ k_ ≠ gb439 ∧ k_ ≠ gb467 ∧ k_ ≠ gb471 ∧ k_ ≠ gb497) hq_ HO470 (fun _ hk => hk.2.2.2.2.2.2.2) (fun _ hk => ⟨hk.1.1, ⟨hk.1.2.1, ⟨hk.1.2.2.1, ⟨hk.1.2.2.2.1, ⟨hk.1.2.2.2.2.1, ⟨hk.1.2.2.2.2.2.1, ⟨hk.1.2.2.2.2.2.2.1, hk.1.2.2.2.2.2.2.2⟩⟩⟩⟩⟩⟩⟩)
  replace HO479 := zqV7 (ok' := fun k_ => nb k_ Ao35 t464.length co35 ∧ nb k_ Ao41 y468.length co41 ∧ nb k_ Ao61 y494.length co61 ∧ k_ ≠ gb437 ∧ k_ ≠ gb438 ∧ k_ ≠ gb439 ∧ k_ ≠ gb467 ∧ k_ ≠ gb471 ∧ k_ ≠ gb497) hq_ HO479 (fun _ hk => hk.2.2.2.2.2.2.2.2) (fun _ hk => ⟨hk.1.1, ⟨hk.1.2.1, ⟨hk.1.2.2.1, ⟨hk.1.2.2.2.1, ⟨hk.1.2.2.2.2.1, ⟨hk.1.2.2.2.2.2.1, ⟨hk.1.2.2.2.2.2.2.1, ⟨hk.1.2.2.2.2.2.2.2.1, hk.1.2.2.2.2.2.2.2.2⟩⟩⟩⟩⟩⟩⟩⟩)
  replace HO482 := zqV7 (ok' := fun k_ => nb k_ Ao35 t464.length co35 ∧ nb k_ Ao41 y468.length co41 ∧ nb k_ Ao61 y494.length co61 ∧ k_ ≠ gb437 ∧ k_ ≠ gb438 ∧ k_ ≠ gb439 ∧ k_ ≠ gb467 ∧ k_ ≠ gb471 ∧ k_ ≠ gb497) hq_ HO482 (fun _ hk => hk.2.2.2.2.2.2.2.2) (fun _ hk => ⟨hk.1.1, ⟨hk.1.2.1, ⟨hk.1.2.2.1, ⟨hk.1.2.2.2.1, ⟨hk.1.2.2.2.2.1, ⟨hk.1.2.2.2.2.2.1, ⟨hk.1.2.2.2.2.2.2.1, ⟨hk.1.2.2.2.2.2.2.2.1, hk.1.2.2.2.2.2.2.2.2⟩⟩⟩⟩⟩⟩⟩⟩)
  replace HO490 := zqV7 (ok' := fun k_ => nb k_ Ao35 t464.length co35 ∧ nb k_ Ao41 y468.length co41 ∧ nb k_ Ao61 y494.length co61 ∧ k_ ≠ gb437 ∧ k_ ≠ gb438 ∧ k_ ≠ gb439 ∧ k_ ≠ gb467 ∧ k_ ≠ gb471 ∧ k_ ≠ gb497) hq_ HO490 (fun _ hk => hk.2.2.2.2.2.2.2.2) (fun _ hk => ⟨hk.1.1, ⟨hk.1.2.1, ⟨hk.1.2.2.1, ⟨hk.1.2.2.2.1, ⟨hk.1.2.2.2.2.1, ⟨hk.1.2.2.2.2.2.1, ⟨hk.1.2.2.2.2.2.2.1, ⟨hk.1.2.2.2.2.2.2.2.1, hk.1.2.2.2.2.2.2.2.2⟩⟩⟩⟩⟩⟩⟩⟩)
  replace HO493 := zqV7 (ok' := fun k_ => nb k_ Ao35 t464.length co35 ∧ nb k_ Ao41 y468.length co41 ∧ nb k_ Ao61 y494.length co61 ∧ k_ ≠ gb437 ∧ k_ ≠ gb438 ∧ k_ ≠ gb439 ∧ k_ ≠ gb467 ∧ k_ ≠ gb471 ∧ k_ ≠ gb497) hq_ HO493 (fun _ hk => hk.2.2.2.2.2.2.2.2) (fun _ hk => ⟨hk.1.1, ⟨hk.1.2.1, ⟨hk.1.2.2.1, ⟨hk.1.2.2.2.1, ⟨hk.1.2.2.2.2.1, ⟨hk.1.2.2.2.2.2.1, ⟨hk.1.2.2.2.2.2.2.1, ⟨hk.1.2.2.2.2.2.2.2.1, hk.1.2.2.2.2.2.2.2.2⟩⟩⟩⟩⟩⟩⟩⟩)
  replace HO496 := zqN7 (ok' := fun k_ => nb k_ Ao35 t464.length co35 ∧ nb k_ Ao41 y468.length co41 ∧ k_ ≠ gb437 ∧ k_ ≠ gb438 ∧ k_ ≠ gb439 ∧ k_ ≠ gb467 ∧ k_ ≠ gb471 ∧ k_ ≠ gb497) hq_ HO496 (fun _ hk => hk.2.2.2.2.2.2.2) (fun _ hk => ⟨hk.1.1, ⟨hk.1.2.1, ⟨hk.1.2.2.1, ⟨hk.1.2.2.2.1, ⟨hk.1.2.2.2.2.1, ⟨hk.1.2.2.2.2.2.1, ⟨hk.1.2.2.2.2.2.2.1, hk.1.2.2.2.2.2.2.2⟩⟩⟩⟩⟩⟩⟩)
  replace BK437 := zf7 hq_ BK437 NB437_497
  replace BK438 := zf7 hq_ BK438 NB438_497
  replace BK439 := zf7 hq_ BK439 NB439_497
  replace BK467 := zf7 hq_ BK467 NB467_497
  replace BK471 := zf7 hq_ BK471 NB471_497
  replace BK497 := zp7 hq_ BK497
  replace HB : Aside0 (Below w.heap.size w w94) := ⟨by subst hq_; exact mZ⟩
  clear hq_
  replace HO447 := zM (Kd.V_drew HO447.out)
  replace HO450 := zM (Kd.V_drew HO450.out)
  replace HO458 := zM (Kd.V_drew HO458.out)
  replace HO461 := zM (Kd.V_drew HO461.out)
  replace HO466 := zM (Kd.R_drew HO466.out)
  replace HO470 := zM (Kd.N_drew HO470.out)
  replace HO479 := zM (Kd.V_drew HO479.out)
  replace HO482 := zM (Kd.V_drew HO482.out)
  replace HO490 := zM (Kd.V_drew HO490.out)
  replace HO493 := zM (Kd.V_drew HO493.out)
  replace HO496 := zM (Kd.N_drew HO496.out)
  replace BK437 := zM (blk_drew BK437.out)
  replace BK438 := zM (blk_drew BK438.out)
  replace BK439 := zM (blk_drew BK439.out)
  replace BK467 := zM (blk_drew BK467.out)
  replace BK471 := zM (blk_drew BK471.out)
  replace BK497 := zM (blk_drew BK497.out)
  replace HB := zM (below_drew1 HB.out)
  refine start_ (n := 22) (S := fun w' => w'.cell? ⟨gb471, 0, none⟩ = some (.int .i64 1) ∧ w'.cell? ⟨gb471, 1, none⟩ = some (.string (⟨#[]⟩ : ByteArray)) ∧ w'.cell? ⟨gb471, 2, none⟩ = some (.int .i64 0) ∧ w'.cell? ⟨gb471, 3, none⟩ = some (.int .i64 0) ∧ w'.cell? ⟨gb471, 4, none⟩ = some (.string (⟨#[]⟩ : ByteArray)) ∧ w'.cell? ⟨gb471, 5, none⟩ = some (.slice none 0 0) ∧ w'.cell? ⟨gb471, 6, none⟩ = some (.slice Ao41 y468.length co41) ∧ w'.cell? ⟨gb467, 0, none⟩ = some (.int .i64 t462) ∧ w'.cell? ⟨gb467, 1, none⟩ = some (.int .i64 t463) ∧ w'.cell? ⟨gb467, 2, none⟩ = some (.slice Ao35 t464.length co35) ∧ w'.cell? ⟨gb497, 0, none⟩ = some (.int .i64 2) ∧ w'.cell? ⟨gb497, 1, none⟩ = some (.string (⟨#[]⟩ : ByteArray)) ∧ w'.cell? ⟨gb497, 2, none⟩ = some (.int .i64 0) ∧ w'.cell? ⟨gb497, 3, none⟩ = some (.int .i64 0) ∧ w'.cell? ⟨gb497, 4, none⟩ = some (.string (⟨#[]⟩ : ByteArray)) ∧ w'.cell? ⟨gb497, 5, none⟩ = some (.slice none 0 0) ∧ w'.cell? ⟨gb497, 6, none⟩ = some (.slice Ao61 y494.length co61) ∧ w'.cell? ⟨gb437, 0, none⟩ = some (.int .i64 t440) ∧ w'.cell? ⟨gb437, 1, none⟩ = some (.string t441) ∧ w'.cell? ⟨gb437, 2, none⟩ = some (.int .i64 t442) ∧ w'.cell? ⟨gb437, 3, none⟩ = some (.int .i64 t443) ∧ w'.cell? ⟨gb437, 4, none⟩ = some (.string t444) ∧ w'.cell? ⟨gb437, 5, none⟩ = some (.slice Ao20 t445.length co20) ∧ w'.cell? ⟨gb437, 6, none⟩ = some (.slice Ao21 t448.length co21)) (ds := []) #[false, false, false, false, false, false, false, false, false, false, false, false, false, false, false, false, false, false, false, false, false, false] (by kernel_rfl) rfl rfl (zI7 BK471 (zI3 BK467 (zI7 BK497 (zJ7 BK437)))) (fun hHeld => ?_); refine with_tabW columbariumlaw13_PredPairs.tab6 columbariumlaw13_PredPairs.bits6 (fun HT_ HW_ => ?_)
  generalize w94.drew = w95 at HO447 HO450 HO458 HO461 HO466 HO470 HO479 HO482 HO490 HO493 HO496 BK437 BK438 BK439 BK467 BK471 BK497 HB hHeld ⊢
  refine take_ (i := 0) (N := some 36) (v := ?_) (a' := ?_) #[true, false, false, false, false, false, false, false, false, false, false, false, false, false, false, false, false, false, false, false, false, false] rfl rfl (take_ofW HT_.out HW_.out (by kernel_rfl)) (fun _ _ _ h => h) (Or.inl ⟨by rfl, ?_⟩) hHeld ?_ ?_
  rotate_left
  ·rintro w' ⟨s0, s1, s2, s3, s4, s5, s6, s7, s8, s9, s10, s11, s12, s13, s14, s15, s16, s17, s18, s19, s20, s21, s22, s23⟩
   go_simp
   with_reducible rfl
  rotate_left
  ·simp only [Act.put, List.setIfInBounds_toArray, List.set_cons_zero, List.set_cons_succ, i64_w, i32_w]
   rfl
  refine take_ (i := 2) (N := some 38) (v := ?_) (a' := ?_) #[true, false, true, false, false, false, false, false, false, false, false, false, false, false, false, false, false, false, false, false, false, false] rfl rfl (take_ofW HT_.out HW_.out (by kernel_rfl)) (fun _ _ _ h => h) (Or.inl ⟨by rfl, ?_⟩) hHeld ?_ ?_
  rotate_left
  ·rintro w' ⟨s0, s1, s2, s3, s4, s5, s6, s7, s8, s9, s10, s11, s12, s13, s14, s15, s16, s17, s18, s19, s20, s21, s22, s23⟩
   go_simp
   with_reducible rfl
  rotate_left
  ·simp only [Act.put, List.setIfInBounds_toArray, List.set_cons_zero, List.set_cons_succ, i64_w, i32_w]
   rfl
  refine take_ (i := 4) (N := some 40) (v := ?_) (a' := ?_) #[true, false, true, false, true, false, false, false, false, false, false, false, false, false, false, false, false, false, false, false, false, false] rfl rfl (take_ofW HT_.out HW_.out (by kernel_rfl)) (fun _ _ _ h => h) (Or.inl ⟨by rfl, ?_⟩) hHeld ?_ ?_
  rotate_left
  ·rintro w' ⟨s0, s1, s2, s3, s4, s5, s6, s7, s8, s9, s10, s11, s12, s13, s14, s15, s16, s17, s18, s19, s20, s21, s22, s23⟩
   go_simp
   with_reducible rfl
  rotate_left
  ·simp only [Act.put, List.setIfInBounds_toArray, List.set_cons_zero, List.set_cons_succ, i64_w, i32_w]
   rfl
  refine take_ (i := 5) (N := some 41) (v := ?_) (a' := ?_) #[true, false, true, false, true, true, false, false, false, false, false, false, false, false, false, false, false, false, false, false, false, false] rfl rfl (take_ofW HT_.out HW_.out (by kernel_rfl)) (fun _ _ _ h => h) (Or.inl ⟨by rfl, ?_⟩) hHeld ?_ ?_
  rotate_left
  ·rintro w' ⟨s0, s1, s2, s3, s4, s5, s6, s7, s8, s9, s10, s11, s12, s13, s14, s15, s16, s17, s18, s19, s20, s21, s22, s23⟩
   go_simp
   with_reducible rfl
  rotate_left
  ·simp only [Act.put, List.setIfInBounds_toArray, List.set_cons_zero, List.set_cons_succ, i64_w, i32_w]
   rfl
  refine one_ (i := 1) (N := some 37) #[true, true, true, false, true, true, false, false, false, false, false, false, false, false, false, false, false, false, false, false, false, false] rfl rfl (one_of HT_.out (by kernel_rfl)) (by decide) (fun K hK => ?_)
  refine goes_ Try.func16 (by kernel_rfl) rfl #[.agg #[.int .i64 1, .string (⟨#[]⟩ : ByteArray), .int .i64 0, .int .i64 0, .string (⟨#[]⟩ : ByteArray), .slice none 0 0, .slice Ao41 y468.length co41], .int .i64 1] (by rfl) rfl rfl yb ?_
  refine (columbariumlaw13_nots.calls k 1 (⟨#[]⟩ : ByteArray) 0 0 (⟨#[]⟩ : ByteArray) (fun k_ => False) _ _ ([] : List ByteArray) (fun k_ => (nb k_ Ao35 t464.length co35 ∧ (nb k_ Ao61 y494.length co61 ∧ (k_ ≠ gb437 ∧ (k_ ≠ gb438 ∧ (k_ ≠ gb439 ∧ (k_ ≠ gb467 ∧ (k_ ≠ gb471 ∧ k_ ≠ gb497)))))))) _ _ y468 1 t498 t499 t500 t501 t502 t503 t506 _ ?side1 ?side2 A69.out).mono ?_
  (case side1 => exact Kd.V_nil _ _ _ _ _)
  (case side2 => exact Kd.N_V (HO470.out))
  rintro e w96 ⟨v504, v507, rfl, ho0, ho1, hb⟩
  refine ⟨_, rfl, ?_⟩
  replace HO447 := zV HO447 hb
  replace HO450 := zV HO450 hb
  replace HO458 := zV HO458 hb
  replace HO461 := zV HO461 hb
  replace HO470 := zN HO470 hb
  have HO505 := zM (Kd.V_lower (Kd.V_mono (ok' := fun k_ => nb k_ Ao35 t464.length co35 ∧ nb k_ Ao61 y494.length co61 ∧ k_ ≠ gb437 ∧ k_ ≠ gb438 ∧ k_ ≠ gb439 ∧ k_ ≠ gb467 ∧ k_ ≠ gb471 ∧ k_ ≠ gb497) ho0 (fun k_ hk_ => Or.elim hk_ (fun hs_ => Or.elim hs_ (fun hs_ => ⟨(hs_).elim, (hs_).elim, (hs_).elim, (hs_).elim, (hs_).elim, (hs_).elim, (hs_).elim, (hs_).elim⟩) (fun hs_ => ⟨hs_.1, hs_.2.1, hs_.2.2.1, hs_.2.2.2.1, hs_.2.2.2.2.1, hs_.2.2.2.2.2.1, hs_.2.2.2.2.2.2.1, hs_.2.2.2.2.2.2.2⟩)) (fun hn_ => ⟨(fR HO466 hn_), (fN HO496 hn_), (fK BK437 hn_), (fK BK438 hn_), (fK BK439 hn_), (fK BK467 hn_), (fK BK471 hn_), (fK BK497 hn_)⟩))) (below_size mZ))
  have HO508 := zM (Kd.V_lower (Kd.V_mono (ok' := fun k_ => nb k_ Ao35 t464.length co35 ∧ nb k_ Ao61 y494.length co61 ∧ k_ ≠ gb437 ∧ k_ ≠ gb438 ∧ k_ ≠ gb439 ∧ k_ ≠ gb467 ∧ k_ ≠ gb471 ∧ k_ ≠ gb497) ho1 (fun k_ hk_ => Or.elim hk_ (fun hs_ => Or.elim hs_ (fun hs_ => ⟨(hs_).elim, (hs_).elim, (hs_).elim, (hs_).elim, (hs_).elim, (hs_).elim, (hs_).elim, (hs_).elim⟩) (fun hs_ => ⟨hs_.1, hs_.2.1, hs_.2.2.1, hs_.2.2.2.1, hs_.2.2.2.2.1, hs_.2.2.2.2.2.1, hs_.2.2.2.2.2.2.1, hs_.2.2.2.2.2.2.2⟩)) (fun hn_ => ⟨(fR HO466 hn_), (fN HO496 hn_), (fK BK437 hn_), (fK BK438 hn_), (fK BK439 hn_), (fK BK467 hn_), (fK BK471 hn_), (fK BK497 hn_)⟩))) (below_size mZ))
  replace HO466 := zR HO466 hb
  replace HO496 := zN HO496 hb
  replace BK437 := zK BK437 hb
  replace BK438 := zK BK438 hb
  replace BK439 := zK BK439 hb
  replace BK467 := zK BK467 hb
  replace BK471 := zK BK471 hb
  replace BK497 := zK BK497 hb
  replace HB := zM (below_step mZ hb)
  (try clear hb)
  (try clear hb2)
  (try clear hk)
  (try clear hi)
  (try clear ho0)
  (try clear ho1)
  obtain ⟨Ao97, co97, eo97⟩ := Kd.V_slice HO505.out
  (first | subst eo97 | (injection eo97 with f1_ f2_ f3_; have f4_ := f1_.symm; have f5_ := f3_.symm; clear f1_ f2_ f3_; subst f4_; subst f5_))
  obtain ⟨Ao98, co98, eo98⟩ := Kd.V_slice HO508.out
  (first | subst eo98 | (injection eo98 with f1_ f2_ f3_; have f4_ := f1_.symm; have f5_ := f3_.symm; clear f1_ f2_ f3_; subst f4_; subst f5_))
  refine hK.out _ _ (zI7 BK471 (zI3 BK467 (zI7 BK497 (zJ7 BK437)))) (fun hHeld => ?_)
  clear hK K
  refine norm_ (a' := ?_) ?_ ?_
  rotate_left
  ·show Act.put _ (some 37) _ = _
   simp only [Act.put, List.setIfInBounds_toArray, List.set_cons_zero, List.set_cons_succ, i64_w, i32_w]
   rfl
  refine one_ (i := 3) (N := some 39) #[true, true, true, true, true, true, false, false, false, false, false, false, false, false, false, false, false, false, false, false, false, false] rfl rfl (one_of HT_.out (by kernel_rfl)) (by decide) (fun K hK => ?_)
  refine goes_ Try.func15 (by kernel_rfl) rfl #[.agg #[.int .i64 t498, .string t499, .int .i64 t500, .int .i64 t501, .string t502, .slice Ao97 t503.length co97, .slice Ao98 t506.length co98], .agg #[.int .i64 t462, .int .i64 t463, .slice Ao35 t464.length co35]] (by rfl) rfl rfl yb ?_
  with_reducible refine (pred_Eval.calls k t498 t499 t500 t501 t502 _ _ t503 _ _ t506 t462 t463 _ _ t464 t509 _ ?side1 ?side2 ?side3 ?side4 ?side5 ?side6 A70.out).mono ?_
  (case side1 => exact zC ((Kd.V_reads' HO505.out).2.2))
  (case side2 => exact (Kd.V_reads' HO505.out).2.1)
  (case side3 => exact zC ((Kd.V_reads' HO508.out).2.2))
  (case side4 => exact (Kd.V_reads' HO508.out).2.1)
  (case side5 => exact zC ((Kd.R_reads' HO466.out).2.2))
  (case side6 => exact (Kd.R_reads' HO466.out).2.1)
  rintro e w99 ⟨rfl, hb⟩
  refine ⟨_, rfl, ?_⟩
  replace HO447 := zV HO447 hb
  replace HO450 := zV HO450 hb
  replace HO458 := zV HO458 hb
  replace HO461 := zV HO461 hb
  replace HO466 := zR HO466 hb
  replace HO470 := zN HO470 hb
  replace HO496 := zN HO496 hb
  replace BK437 := zK BK437 hb
  replace BK438 := zK BK438 hb
  replace BK439 := zK BK439 hb
  replace BK467 := zK BK467 hb
  replace BK471 := zK BK471 hb
  replace BK497 := zK BK497 hb
  replace HB := zM (below_step mZ hb)
  (try clear hb)
  (try clear hb2)
  (try clear hk)
  (try clear hi)
  refine hK.out _ _ (zI7 BK471 (zI3 BK467 (zI7 BK497 (zJ7 BK437)))) (fun hHeld => ?_)
  clear hK K
  refine norm_ (a' := ?_) ?_ ?_
  rotate_left
  ·show Act.put _ (some 39) _ = _
   simp only [Act.put, List.setIfInBounds_toArray, List.set_cons_zero, List.set_cons_succ, i64_w, i32_w]
   rfl
  refine one_ (i := 6) (N := some 42) #[true, true, true, true, true, true, true, false, false, false, false, false, false, false, false, false, false, false, false, false, false, false] rfl rfl (one_of HT_.out (by kernel_rfl)) (by decide) (fun K hK => ?_)
  refine goes_ Try.func15 (by kernel_rfl) rfl #[.agg #[.int .i64 2, .string (⟨#[]⟩ : ByteArray), .int .i64 0, .int .i64 0, .string (⟨#[]⟩ : ByteArray), .slice none 0 0, .slice Ao61 y494.length co61], .agg #[.int .i64 t462, .int .i64 t463, .slice Ao35 t464.length co35]] (by rfl) rfl rfl yb ?_
  refine (pred_Eval.calls k 2 (⟨#[]⟩ : ByteArray) 0 0 (⟨#[]⟩ : ByteArray) _ _ ([] : List ByteArray) _ _ y494 t462 t463 _ _ t464 t510 _ ?side1 ?side2 ?side3 ?side4 ?side5 ?side6 A71.out).mono ?_
  (case side1 => exact Kd.C_nil _ _)
  (case side2 => exact Nat.le_refl _)
  (case side3 => exact zC ((Kd.N_reads' HO496.out).2.2))
  (case side4 => exact (Kd.N_reads' HO496.out).2.1)
  (case side5 => exact zC ((Kd.R_reads' HO466.out).2.2))
  (case side6 => exact (Kd.R_reads' HO466.out).2.1)
  rintro e w100 ⟨rfl, hb⟩
  refine ⟨_, rfl, ?_⟩
  replace HO447 := zV HO447 hb
  replace HO450 := zV HO450 hb
  replace HO458 := zV HO458 hb
  replace HO461 := zV HO461 hb
  replace HO466 := zR HO466 hb
  replace HO470 := zN HO470 hb
  replace HO496 := zN HO496 hb
  replace BK437 := zK BK437 hb
  replace BK438 := zK BK438 hb
  replace BK439 := zK BK439 hb
  replace BK467 := zK BK467 hb
  replace BK471 := zK BK471 hb
  replace BK497 := zK BK497 hb
  replace HB := zM (below_step mZ hb)
  (try clear hb)
  (try clear hb2)
  (try clear hk)
  (try clear hi)
  refine hK.out _ _ (zI7 BK471 (zI3 BK467 (zI7 BK497 (zJ7 BK437)))) (fun hHeld => ?_)
  clear hK K
  refine norm_ (a' := ?_) ?_ ?_
  rotate_left
  ·show Act.put _ (some 42) _ = _
   simp only [Act.put, List.setIfInBounds_toArray, List.set_cons_zero, List.set_cons_succ, i64_w, i32_w]
   rfl
  refine pure_ (i := 7) (N := some 43) (v := ?_) (a' := ?_) #[true, true, true, true, true, true, true, true, false, false, false, false, false, false, false, false, false, false, false, false, false, false] rfl rfl (any_of HT_.out (by kernel_rfl)) (fun _ _ _ h => h) (Or.inl ⟨by rfl, ?_⟩) ?_ ?_
  rotate_left
  ·intro w'
   go_simp
   with_reducible rfl
  rotate_left
  ·simp only [Act.put, List.setIfInBounds_toArray, List.set_cons_zero, List.set_cons_succ, i64_w, i32_w]
   rfl
  refine pure_ (i := 8) (N := some 44) (v := ?_) (a' := ?_) #[true, true, true, true, true, true, true, true, true, false, false, false, false, false, false, false, false, false, false, false, false, false] rfl rfl (any_of HT_.out (by kernel_rfl)) (fun _ _ _ h => h) (Or.inl ⟨by rfl, ?_⟩) ?_ ?_
  rotate_left
  ·intro w'
   go_simp
   with_reducible rfl
  rotate_left
  ·simp only [Act.put, List.setIfInBounds_toArray, List.set_cons_zero, List.set_cons_succ, i64_w, i32_w]
   rfl
  refine take_ (i := 9) (N := some 45) (v := ?_) (a' := ?_) #[true, true, true, true, true, true, true, true, true, true, false, false, false, false, false, false, false, false, false, false, false, false] rfl rfl (take_ofW HT_.out HW_.out (by kernel_rfl)) (fun _ _ _ h => h) (Or.inl ⟨by rfl, ?_⟩) hHeld ?_ ?_
  rotate_left
  ·rintro w' ⟨s0, s1, s2, s3, s4, s5, s6, s7, s8, s9, s10, s11, s12, s13, s14, s15, s16, s17, s18, s19, s20, s21, s22, s23⟩
   go_simp
   with_reducible rfl
  rotate_left
  ·simp only [Act.put, List.setIfInBounds_toArray, List.set_cons_zero, List.set_cons_succ, i64_w, i32_w]
   rfl
  refine take_ (i := 10) (N := some 46) (v := ?_) (a' := ?_) #[true, true, true, true, true, true, true, true, true, true, true, false, false, false, false, false, false, false, false, false, false, false] rfl rfl (take_ofW HT_.out HW_.out (by kernel_rfl)) (fun _ _ _ h => h) (Or.inl ⟨by rfl, ?_⟩) hHeld ?_ ?_
  rotate_left
  ·rintro w' ⟨s0, s1, s2, s3, s4, s5, s6, s7, s8, s9, s10, s11, s12, s13, s14, s15, s16, s17, s18, s19, s20, s21, s22, s23⟩
   go_simp
   with_reducible rfl
  rotate_left
  ·simp only [Act.put, List.setIfInBounds_toArray, List.set_cons_zero, List.set_cons_succ, i64_w, i32_w]
   rfl
  refine take_ (i := 12) (N := some 48) (v := ?_) (a' := ?_) #[true, true, true, true, true, true, true, true, true, true, true, false, true, false, false, false, false, false, false, false, false, false] rfl rfl (take_ofW HT_.out HW_.out (by kernel_rfl)) (fun _ _ _ h => h) (Or.inl ⟨by rfl, ?_⟩) hHeld ?_ ?_
  rotate_left
  ·rintro w' ⟨s0, s1, s2, s3, s4, s5, s6, s7, s8, s9, s10, s11, s12, s13, s14, s15, s16, s17, s18, s19, s20, s21, s22, s23⟩
   go_simp
   with_reducible rfl
  rotate_left
  ·simp only [Act.put, List.setIfInBounds_toArray, List.set_cons_zero, List.set_cons_succ, i64_w, i32_w]
   rfl
  refine take_ (i := 13) (N := some 49) (v := ?_) (a' := ?_) #[true, true, true, true, true, true, true, true, true, true, true, false, true, true, false, false, false, false, false, false, false, false] rfl rfl (take_ofW HT_.out HW_.out (by kernel_rfl)) (fun _ _ _ h => h) (Or.inl ⟨by rfl, ?_⟩) hHeld ?_ ?_
  rotate_left
  ·rintro w' ⟨s0, s1, s2, s3, s4, s5, s6, s7, s8, s9, s10, s11, s12, s13, s14, s15, s16, s17, s18, s19, s20, s21, s22, s23⟩
   go_simp
   with_reducible rfl
  rotate_left
  ·simp only [Act.put, List.setIfInBounds_toArray, List.set_cons_zero, List.set_cons_succ, i64_w, i32_w]
   rfl
  refine one_ (i := 11) (N := some 47) #[true, true, true, true, true, true, true, true, true, true, true, true, true, true, false, false, false, false, false, false, false, false] rfl rfl (one_of HT_.out (by kernel_rfl)) (by decide) (fun K hK => ?_)
  refine goes_ Try.func15 (by kernel_rfl) rfl #[.agg #[.int .i64 1, .string (⟨#[]⟩ : ByteArray), .int .i64 0, .int .i64 0, .string (⟨#[]⟩ : ByteArray), .slice none 0 0, .slice Ao41 y468.length co41], .agg #[.int .i64 t462, .int .i64 t463, .slice Ao35 t464.length co35]] (by rfl) rfl rfl yb ?_
  refine (pred_Eval.calls k 1 (⟨#[]⟩ : ByteArray) 0 0 (⟨#[]⟩ : ByteArray) _ _ ([] : List ByteArray) _ _ y468 t462 t463 _ _ t464 t511 _ ?side1 ?side2 ?side3 ?side4 ?side5 ?side6 A80.out).mono ?_
  (case side1 => exact Kd.C_nil _ _)
  (case side2 => exact Nat.le_refl _)
  (case side3 => exact zC ((Kd.N_reads' HO470.out).2.2))
  (case side4 => exact (Kd.N_reads' HO470.out).2.1)
  (case side5 => exact zC ((Kd.R_reads' HO466.out).2.2))
  (case side6 => exact (Kd.R_reads' HO466.out).2.1)
  rintro e w101 ⟨rfl, hb⟩
  refine ⟨_, rfl, ?_⟩
  replace HO447 := zV HO447 hb
  replace HO450 := zV HO450 hb
  replace HO458 := zV HO458 hb
  replace HO461 := zV HO461 hb
  replace HO466 := zR HO466 hb
  replace HO470 := zN HO470 hb
  replace HO496 := zN HO496 hb
  replace BK437 := zK BK437 hb
  replace BK438 := zK BK438 hb
  replace BK439 := zK BK439 hb
  replace BK467 := zK BK467 hb
  replace BK471 := zK BK471 hb
  replace BK497 := zK BK497 hb
  replace HB := zM (below_step mZ hb)
  (try clear hb)
  (try clear hb2)
  (try clear hk)
  (try clear hi)
  refine hK.out _ _ (zI7 BK471 (zI3 BK467 (zI7 BK497 (zJ7 BK437)))) (fun hHeld => ?_)
  clear hK K
  refine norm_ (a' := ?_) ?_ ?_
  rotate_left
  ·show Act.put _ (some 47) _ = _
   simp only [Act.put, List.setIfInBounds_toArray, List.set_cons_zero, List.set_cons_succ, i64_w, i32_w]
   rfl
  refine one_ (i := 14) (N := some 50) #[true, true, true, true, true, true, true, true, true, true, true, true, true, true, true, false, false, false, false, false, false, false] rfl rfl (one_of HT_.out (by kernel_rfl)) (by decide) (fun K hK => ?_)
  refine goes_ Try.func15 (by kernel_rfl) rfl #[.agg #[.int .i64 t440, .string t441, .int .i64 t442, .int .i64 t443, .string t444, .slice Ao20 t445.length co20, .slice Ao21 t448.length co21], .agg #[.int .i64 t462, .int .i64 t463, .slice Ao35 t464.length co35]] (by rfl) rfl rfl yb ?_
  with_reducible refine (pred_Eval.calls k t440 t441 t442 t443 t444 _ _ t445 _ _ t448 t462 t463 _ _ t464 false _ ?side1 ?side2 ?side3 ?side4 ?side5 ?side6 A81.out).mono ?_
  (case side1 => exact zC ((Kd.V_reads' HO447.out).2.2))
  (case side2 => exact (Kd.V_reads' HO447.out).2.1)
  (case side3 => exact zC ((Kd.V_reads' HO450.out).2.2))
  (case side4 => exact (Kd.V_reads' HO450.out).2.1)
  (case side5 => exact zC ((Kd.R_reads' HO466.out).2.2))
  (case side6 => exact (Kd.R_reads' HO466.out).2.1)
  rintro e w102 ⟨rfl, hb⟩
  refine ⟨_, rfl, ?_⟩
  replace HO447 := zV HO447 hb
  replace HO450 := zV HO450 hb
  replace HO458 := zV HO458 hb
  replace HO461 := zV HO461 hb
  replace HO466 := zR HO466 hb
  replace HO470 := zN HO470 hb
  replace HO496 := zN HO496 hb
  replace BK437 := zK BK437 hb
  replace BK438 := zK BK438 hb
  replace BK439 := zK BK439 hb
  replace BK467 := zK BK467 hb
  replace BK471 := zK BK471 hb
  replace BK497 := zK BK497 hb
  replace HB := zM (below_step mZ hb)
  (try clear hb)
  (try clear hb2)
  (try clear hk)
  (try clear hi)
  refine hK.out _ _ (zI7 BK471 (zI3 BK467 (zI7 BK497 (zJ7 BK437)))) (fun hHeld => ?_)
  clear hK K
  refine norm_ (a' := ?_) ?_ ?_
  rotate_left
  ·show Act.put _ (some 50) _ = _
   simp only [Act.put, List.setIfInBounds_toArray, List.set_cons_zero, List.set_cons_succ, i64_w, i32_w]
   rfl
  refine pure_ (i := 15) (N := some 51) (v := ?_) (a' := ?_) #[true, true, true, true, true, true, true, true, true, true, true, true, true, true, true, true, false, false, false, false, false, false] rfl rfl (any_of HT_.out (by kernel_rfl)) (fun _ _ _ h => h) (Or.inl ⟨by rfl, ?_⟩) ?_ ?_
  rotate_left
  ·intro w'
   go_simp
   with_reducible rfl
  rotate_left
  ·simp only [Act.put, List.setIfInBounds_toArray, List.set_cons_zero, List.set_cons_succ, i64_w, i32_w]
   rfl
  refine pure_ (i := 16) (N := some 52) (v := undef) (a' := ?_) #[true, true, true, true, true, true, true, true, true, true, true, true, true, true, true, true, true, false, false, false, false, false] rfl rfl (any_of HT_.out (by kernel_rfl)) (fun _ _ _ h => h) (Or.inr ⟨by rfl, rfl⟩) ?_ ?_
  rotate_left
  ·simp only [Act.put, List.setIfInBounds_toArray, List.set_cons_zero, List.set_cons_succ, i64_w, i32_w]
   rfl
  refine pure_ (i := 17) (N := some 53) (v := undef) (a' := ?_) #[true, true, true, true, true, true, true, true, true, true, true, true, true, true, true, true, true, true, false, false, false, false] rfl rfl (any_of HT_.out (by kernel_rfl)) (fun _ _ _ h => h) (Or.inr ⟨by rfl, rfl⟩) ?_ ?_
  rotate_left
  ·simp only [Act.put, List.setIfInBounds_toArray, List.set_cons_zero, List.set_cons_succ, i64_w, i32_w]
   rfl
  refine pure_ (i := 18) (N := some 54) (v := undef) (a' := ?_) #[true, true, true, true, true, true, true, true, true, true, true, true, true, true, true, true, true, true, true, false, false, false] rfl rfl (any_of HT_.out (by kernel_rfl)) (fun _ _ _ h => h) (Or.inr ⟨by rfl, rfl⟩) ?_ ?_
  rotate_left
  ·simp only [Act.put, List.setIfInBounds_toArray, List.set_cons_zero, List.set_cons_succ, i64_w, i32_w]
   rfl
  refine pure_ (i := 19) (N := some 55) (v := ?_) (a' := ?_) #[true, true, true, true, true, true, true, true, true, true, true, true, true, true, true, true, true, true, true, true, false, false] rfl rfl (any_of HT_.out (by kernel_rfl)) (fun _ _ _ h => h) (Or.inl ⟨by rfl, ?_⟩) ?_ ?_
  rotate_left
  ·intro w'
   go_simp
   with_reducible rfl
  rotate_left
  ·simp only [Act.put, List.setIfInBounds_toArray, List.set_cons_zero, List.set_cons_succ, i64_w, i32_w]
   rfl
  refine pure_ (i := 20) (N := some 56) (v := ?_) (a' := ?_) #[true, true, true, true, true, true, true, true, true, true, true, true, true, true, true, true, true, true, true, true, true, false] rfl rfl (any_of HT_.out (by kernel_rfl)) (fun _ _ _ h => h) (Or.inl ⟨by rfl, ?_⟩) ?_ ?_
  rotate_left
  ·intro w'
   go_simp
   with_reducible rfl
  rotate_left
  ·simp only [Act.put, List.setIfInBounds_toArray, List.set_cons_zero, List.set_cons_succ, i64_w, i32_w]
   rfl
  refine pure_ (i := 21) (N := some 57) (v := ?_) (a' := ?_) #[true, true, true, true, true, true, true, true, true, true, true, true, true, true, true, true, true, true, true, true, true, true] rfl rfl (any_of HT_.out (by kernel_rfl)) (fun _ _ _ h => h) (Or.inl ⟨by rfl, ?_⟩) ?_ ?_
  rotate_left
  ·intro w'
   go_simp
   with_reducible rfl
  rotate_left
  ·simp only [Act.put, List.setIfInBounds_toArray, List.set_cons_zero, List.set_cons_succ, i64_w, i32_w]
   rfl
  refine done_ (done_of HT_.out (by kernel_rfl)) ?_
  try go_wp2
  go_meet
  case rel => exact ⟨_, ((t511 != false)), ya, H', ⟨by first | omega | exact Nat.le_refl _⟩, ⟨yV HO447 (fun _ hk => ⟨hk.2.2.2.1, ⟨hk.2.2.2.2.1, ⟨hk.2.2.2.2.2.1, ⟨hk.2.2.2.2.2.2.1, ⟨hk.2.2.2.2.2.2.2.1, ⟨hk.2.2.2.2.2.2.2.2.1, ⟨hk.2.2.2.2.2.2.2.2.2.1, ⟨hk.2.2.2.2.2.2.2.2.2.2.1, hk.2.2.2.2.2.2.2.2.2.2.2⟩⟩⟩⟩⟩⟩⟩⟩)⟩, ⟨yV HO450 (fun _ hk => ⟨hk.2.2.2.1, ⟨hk.2.2.2.2.1, ⟨hk.2.2.2.2.2.1, ⟨hk.2.2.2.2.2.2.1, ⟨hk.2.2.2.2.2.2.2.1, ⟨hk.2.2.2.2.2.2.2.2.1, ⟨hk.2.2.2.2.2.2.2.2.2.1, ⟨hk.2.2.2.2.2.2.2.2.2.2.1, hk.2.2.2.2.2.2.2.2.2.2.2⟩⟩⟩⟩⟩⟩⟩⟩)⟩, ⟨yV HO458 (fun _ hk => ⟨hk.2.2.1, ⟨hk.2.2.2.1, ⟨hk.2.2.2.2.1, ⟨hk.2.2.2.2.2.1, ⟨hk.2.2.2.2.2.2.1, ⟨hk.2.2.2.2.2.2.2.1, ⟨hk.2.2.2.2.2.2.2.2.1, ⟨hk.2.2.2.2.2.2.2.2.2.1, hk.2.2.2.2.2.2.2.2.2.2⟩⟩⟩⟩⟩⟩⟩⟩)⟩, ⟨yV HO461 (fun _ hk => ⟨hk.2.2.2.1, ⟨hk.2.2.2.2.1, ⟨hk.2.2.2.2.2.1, ⟨hk.2.2.2.2.2.2.1, ⟨hk.2.2.2.2.2.2.2.1, ⟨hk.2.2.2.2.2.2.2.2.1, ⟨hk.2.2.2.2.2.2.2.2.2.1, ⟨hk.2.2.2.2.2.2.2.2.2.2.1, hk.2.2.2.2.2.2.2.2.2.2.2⟩⟩⟩⟩⟩⟩⟩⟩)⟩, ⟨mR HO466.out⟩, ⟨mN HO470.out⟩, ⟨mN HO496.out⟩, ⟨mK BK437.out⟩, ⟨mK BK438.out⟩, ⟨mK BK439.out⟩, ⟨mK BK467.out⟩, ⟨mK BK471.out⟩, ⟨mK BK497.out⟩, ⟨mZ⟩⟩
 clear HC11
 obtain ⟨kq, x57_10, rfl, HA, HJ10, HO_438005, HO_438006, HO_439005, HO_439006, HO_468002, HO_472006, HO_498006, BK437, BK438, BK439, BK467, BK471, BK497, HB⟩ := hcut
 cases kq with
 | zero => exact absurd HA.out (by simp [columbariumlaw13_PredPairs.j0])
 | succ kj10 =>
  have H := HA.out
  clear HA
  simp only [columbariumlaw13_PredPairs.j0] at H
  by_cases c103 : x57_10 = true
  ·subst c103
   rw [if_pos rfl] at H
   exact absurd ((Option.some.inj H).trans hrt_.out) (by decide)
  replace c103 := Bool.eq_false_iff.mpr c103
  subst c103
  rw [if_neg (show ¬ (false = true) by decide)] at H
  have HC104 := zM H
  clear H
  go_upto_if 60 with (fail)
  go_cut [3, 4] (fun v3 v4 wc => ∃ (kq : Nat) (x3_103 : Int) (x4_103 : Int), v3 = .int .i64 x3_103 ∧ v4 = .int .i64 x4_103 ∧ Aside0 (columbariumlaw13_PredPairs.j1 kq x3_103 x4_103 t462 t463 t464 = some r) ∧ Aside0 (kq ≤ kj10) ∧ Aside0 (Kd.V Kd.string 9 wc w.heap.size (fun k_ => nb k_ Ao35 t464.length co35 ∧ nb k_ Ao41 y468.length co41 ∧ nb k_ Ao61 y494.length co61 ∧ k_ ≠ gb437 ∧ k_ ≠ gb438 ∧ k_ ≠ gb439 ∧ k_ ≠ gb467 ∧ k_ ≠ gb471 ∧ k_ ≠ gb497) (.slice Ao20 t445.length co20) t445) ∧ Aside0 (Kd.V k25 25 wc w.heap.size (fun k_ => nb k_ Ao35 t464.length co35 ∧ nb k_ Ao41 y468.length co41 ∧ nb k_ Ao61 y494.length co61 ∧ k_ ≠ gb437 ∧ k_ ≠ gb438 ∧ k_ ≠ gb439 ∧ k_ ≠ gb467 ∧ k_ ≠ gb471 ∧ k_ ≠ gb497) (.slice Ao21 t448.length co21) t448) ∧ Aside0 (Kd.V Kd.string 9 wc w.heap.size (fun k_ => nb k_ Ao35 t464.length co35 ∧ nb k_ Ao41 y468.length co41 ∧ nb k_ Ao61 y494.length co61 ∧ k_ ≠ gb437 ∧ k_ ≠ gb438 ∧ k_ ≠ gb439 ∧ k_ ≠ gb467 ∧ k_ ≠ gb471 ∧ k_ ≠ gb497) (.slice Ao26 t456.length co26) t456) ∧ Aside0 (Kd.V k25 25 wc w.heap.size (fun k_ => nb k_ Ao35 t464.length co35 ∧ nb k_ Ao41 y468.length co41 ∧ nb k_ Ao61 y494.length co61 ∧ k_ ≠ gb437 ∧ k_ ≠ gb438 ∧ k_ ≠ gb439 ∧ k_ ≠ gb467 ∧ k_ ≠ gb471 ∧ k_ ≠ gb497) (.slice Ao27 t459.length co27) t459) ∧ Aside0 (Kd.R k52 52 wc w.heap.size (fun _ => True) (.slice Ao35 t464.length co35) t464) ∧ Aside0 (Kd.N k25 25 wc w.heap.size (fun k_ => nb k_ Ao35 t464.length co35 ∧ nb k_ Ao61 y494.length co61 ∧ k_ ≠ gb437 ∧ k_ ≠ gb438 ∧ k_ ≠ gb439 ∧ k_ ≠ gb467 ∧ k_ ≠ gb471 ∧ k_ ≠ gb497) (.slice Ao41 y468.length co41) y468) ∧ Aside0 (Kd.N k25 25 wc w.heap.size (fun k_ => nb k_ Ao35 t464.length co35 ∧ nb k_ Ao41 y468.length co41 ∧ k_ ≠ gb437 ∧ k_ ≠ gb438 ∧ k_ ≠ gb439 ∧ k_ ≠ gb467 ∧ k_ ≠ gb471 ∧ k_ ≠ gb497) (.slice Ao61 y494.length co61) y494) ∧ Aside0 (wc.heap[gb437]? = some (.cells #[.int .i64 t440, .string t441, .int .i64 t442, .int .i64 t443, .string t444, (.slice Ao20 t445.length co20), (.slice Ao21 t448.length co21)] 25 (0, 0))) ∧ Aside0 (wc.heap[gb438]? = some (.cells #[.int .i64 t451, .string t452, .int .i64 t453, .int .i64 t454, .string t455, (.slice Ao26 t456.length co26), (.slice Ao27 t459.length co27)] 25 (0, 0))) ∧ Aside0 (wc.heap[gb439]? = some (.cells #[.int .i64 a2_0, .int .i64 a2_1, (.slice A2_2 l2_2.length c2_2)] 36 (0, 0))) ∧ Aside0 (wc.heap[gb467]? = some (.cells #[.int .i64 t462, .int .i64 t463, (.slice Ao35 t464.length co35)] 36 (0, 0))) ∧ Aside0 (wc.heap[gb471]? = some (.cells #[.int .i64 1, .string (⟨#[]⟩ : ByteArray), .int .i64 0, .int .i64 0, .string (⟨#[]⟩ : ByteArray), (.slice none 0 0), (.slice Ao41 y468.length co41)] 25 (0, 0))) ∧ Aside0 (wc.heap[gb497]? = some (.cells #[.int .i64 2, .string (⟨#[]⟩ : ByteArray), .int .i64 0, .int .i64 0, .string (⟨#[]⟩ : ByteArray), (.slice none 0 0), (.slice Ao61 y494.length co61)] 25 (0, 0))) ∧ Aside0 (Below w.heap.size w wc))
  case first =>
   have H := HC104.out
   clear HC104
   by_cases c105 : a3 > a4
   ·rw [if_pos c105] at H
    have c105b0 : decide (a4 < a3) = true := decide_eq_true c105
    clear c105
    (first | rw [c105b0] | rw [c105b1] | (simp only [i64_w, i32_w]; rw [c105b0]) | skip)
    have H' := Aside0.mk H
    clear H
    go_wp2
    go_meet
    case rel => exact ⟨_, (a4), (a3), ya, ya, H', ⟨by have := HJ10.out; first | omega | exact Nat.le_refl _⟩, ⟨mV HO_438005.out⟩, ⟨mV HO_438006.out⟩, ⟨mV HO_439005.out⟩, ⟨mV HO_439006.out⟩, ⟨mR HO_468002.out⟩, ⟨mN HO_472006.out⟩, ⟨mN HO_498006.out⟩, ⟨mK BK437.out⟩, ⟨mK BK438.out⟩, ⟨mK BK439.out⟩, ⟨mK BK467.out⟩, ⟨mK BK471.out⟩, ⟨mK BK497.out⟩, ⟨mZ⟩⟩
   rw [if_neg c105] at H
   have c105b0 : decide (a4 < a3) = false := decide_eq_false c105
   clear c105
   (first | rw [c105b0] | rw [c105b1] | (simp only [i64_w, i32_w]; rw [c105b0]) | skip)
   have H' := Aside0.mk H
   clear H
   go_wp2
   go_meet
   case rel => exact ⟨_, (a3), (a4), ya, ya, H', ⟨by have := HJ10.out; first | omega | exact Nat.le_refl _⟩, ⟨mV HO_438005.out⟩, ⟨mV HO_438006.out⟩, ⟨mV HO_439005.out⟩, ⟨mV HO_439006.out⟩, ⟨mR HO_468002.out⟩, ⟨mN HO_472006.out⟩, ⟨mN HO_498006.out⟩, ⟨mK BK437.out⟩, ⟨mK BK438.out⟩, ⟨mK BK439.out⟩, ⟨mK BK467.out⟩, ⟨mK BK471.out⟩, ⟨mK BK497.out⟩, ⟨mZ⟩⟩
  clear HC104
  try clear c103
  try clear c105
  try clear c105b0
  try clear c105b1
  obtain ⟨kq, x3_103, x4_103, rfl, rfl, HA, HJ103, HO_438005, HO_438006, HO_439005, HO_439006, HO_468002, HO_472006, HO_498006, BK437, BK438, BK439, BK467, BK471, BK497, HB⟩ := hcut
  cases kq with
  | zero => exact absurd HA.out (by simp [columbariumlaw13_PredPairs.j1])
  | succ kj103 =>
   have H := HA.out
   clear HA
   simp only [columbariumlaw13_PredPairs.j1] at H
   have HC106 := zM H
   clear H
   go_upto_region 10 with (fail)
   go_cut [68] (fun v68 wc => ∃ (kq : Nat) (x68_105 : Bool), v68 = .bool x68_105 ∧ Aside0 (columbariumlaw13_PredPairs.j2 kq x3_103 x4_103 x68_105 t462 t463 t464 = some r) ∧ Aside0 (kq ≤ kj103) ∧ Aside0 (Kd.V Kd.string 9 wc w.heap.size (fun k_ => nb k_ Ao35 t464.length co35 ∧ nb k_ Ao41 y468.length co41 ∧ nb k_ Ao61 y494.length co61 ∧ k_ ≠ gb437 ∧ k_ ≠ gb438 ∧ k_ ≠ gb439 ∧ k_ ≠ gb467 ∧ k_ ≠ gb471 ∧ k_ ≠ gb497) (.slice Ao20 t445.length co20) t445) ∧ Aside0 (Kd.V k25 25 wc w.heap.size (fun k_ => nb k_ Ao35 t464.length co35 ∧ nb k_ Ao41 y468.length co41 ∧ nb k_ Ao61 y494.length co61 ∧ k_ ≠ gb437 ∧ k_ ≠ gb438 ∧ k_ ≠ gb439 ∧ k_ ≠ gb467 ∧ k_ ≠ gb471 ∧ k_ ≠ gb497) (.slice Ao21 t448.length co21) t448) ∧ Aside0 (Kd.V Kd.string 9 wc w.heap.size (fun k_ => nb k_ Ao35 t464.length co35 ∧ nb k_ Ao41 y468.length co41 ∧ nb k_ Ao61 y494.length co61 ∧ k_ ≠ gb437 ∧ k_ ≠ gb438 ∧ k_ ≠ gb439 ∧ k_ ≠ gb467 ∧ k_ ≠ gb471 ∧ k_ ≠ gb497) (.slice Ao26 t456.length co26) t456) ∧ Aside0 (Kd.V k25 25 wc w.heap.size (fun k_ => nb k_ Ao35 t464.length co35 ∧ nb k_ Ao41 y468.length co41 ∧ nb k_ Ao61 y494.length co61 ∧ k_ ≠ gb437 ∧ k_ ≠ gb438 ∧ k_ ≠ gb439 ∧ k_ ≠ gb467 ∧ k_ ≠ gb471 ∧ k_ ≠ gb497) (.slice Ao27 t459.length co27) t459) ∧ Aside0 (Kd.R k52 52 wc w.heap.size (fun _ => True) (.slice Ao35 t464.length co35) t464) ∧ Aside0 (Kd.N k25 25 wc w.heap.size (fun k_ => nb k_ Ao35 t464.length co35 ∧ nb k_ Ao61 y494.length co61 ∧ k_ ≠ gb437 ∧ k_ ≠ gb438 ∧ k_ ≠ gb439 ∧ k_ ≠ gb467 ∧ k_ ≠ gb471 ∧ k_ ≠ gb497) (.slice Ao41 y468.length co41) y468) ∧ Aside0 (Kd.N k25 25 wc w.heap.size (fun k_ => nb k_ Ao35 t464.length co35 ∧ nb k_ Ao41 y468.length co41 ∧ k_ ≠ gb437 ∧ k_ ≠ gb438 ∧ k_ ≠ gb439 ∧ k_ ≠ gb467 ∧ k_ ≠ gb471 ∧ k_ ≠ gb497) (.slice Ao61 y494.length co61) y494) ∧ Aside0 (wc.heap[gb437]? = some (.cells #[.int .i64 t440, .string t441, .int .i64 t442, .int .i64 t443, .string t444, (.slice Ao20 t445.length co20), (.slice Ao21 t448.length co21)] 25 (0, 0))) ∧ Aside0 (wc.heap[gb438]? = some (.cells #[.int .i64 t451, .string t452, .int .i64 t453, .int .i64 t454, .string t455, (.slice Ao26 t456.length co26), (.slice Ao27 t459.length co27)] 25 (0, 0))) ∧ Aside0 (wc.heap[gb439]? = some (.cells #[.int .i64 a2_0, .int .i64 a2_1, (.slice A2_2 l2_2.length c2_2)] 36 (0, 0))) ∧ Aside0 (wc.heap[gb467]? = some (.cells #[.int .i64 t462, .int .i64 t463, (.slice Ao35 t464.length co35)] 36 (0, 0))) ∧ Aside0 (wc.heap[gb471]? = some (.cells #[.int .i64 1, .string (⟨#[]⟩ : ByteArray), .int .i64 0, .int .i64 0, .string (⟨#[]⟩ : ByteArray), (.slice none 0 0), (.slice Ao41 y468.length co41)] 25 (0, 0))) ∧ Aside0 (wc.heap[gb497]? = some (.cells #[.int .i64 2, .string (⟨#[]⟩ : ByteArray), .int .i64 0, .int .i64 0, .string (⟨#[]⟩ : ByteArray), (.slice none 0 0), (.slice Ao61 y494.length co61)] 25 (0, 0))) ∧ Aside0 (Below w.heap.size w wc))
   case first =>
    have H := HC106.out
    clear HC106
    by_cases c107 : x3_103 = (-9223372036854775808)
    ·rw [if_pos c107] at H
     have c107b0 : (x3_103 == (-9223372036854775808)) = true := beq_iff_eq.mpr c107
     have c107b1 : (x3_103 != (-9223372036854775808)) = false := bne_eq_false_iff_eq.mpr c107
     clear c107
     (first | rw [c107b0] | rw [c107b1] | (simp only [i64_w, i32_w]; rw [c107b0]) | skip)
     have H' := Aside0.mk H
     clear H
     go_wp2
     go_meet
     case rel => exact ⟨_, (true), ya, H', ⟨by have := HJ10.out; have := HJ103.out; first | omega | exact Nat.le_refl _⟩, ⟨mV HO_438005.out⟩, ⟨mV HO_438006.out⟩, ⟨mV HO_439005.out⟩, ⟨mV HO_439006.out⟩, ⟨mR HO_468002.out⟩, ⟨mN HO_472006.out⟩, ⟨mN HO_498006.out⟩, ⟨mK BK437.out⟩, ⟨mK BK438.out⟩, ⟨mK BK439.out⟩, ⟨mK BK467.out⟩, ⟨mK BK471.out⟩, ⟨mK BK497.out⟩, ⟨mZ⟩⟩
    rw [if_neg c107] at H
    have c107b0 : (x3_103 == (-9223372036854775808)) = false := beq_eq_false_iff_ne.mpr c107
    have c107b1 : (x3_103 != (-9223372036854775808)) = true := bne_iff_ne.mpr c107
    (first | rw [c107b0] | rw [c107b1] | (simp only [i64_w, i32_w]; rw [c107b0]) | skip)
    have H' := Aside0.mk H
    clear H
    go_wp2
    go_meet
    case rel => exact ⟨_, ((x4_103 == 9223372036854775807)), ya, H', ⟨by have := HJ10.out; have := HJ103.out; first | omega | exact Nat.le_refl _⟩, ⟨mV HO_438005.out⟩, ⟨mV HO_438006.out⟩, ⟨mV HO_439005.out⟩, ⟨mV HO_439006.out⟩, ⟨mR HO_468002.out⟩, ⟨mN HO_472006.out⟩, ⟨mN HO_498006.out⟩, ⟨mK BK437.out⟩, ⟨mK BK438.out⟩, ⟨mK BK439.out⟩, ⟨mK BK467.out⟩, ⟨mK BK471.out⟩, ⟨mK BK497.out⟩, ⟨mZ⟩⟩
   clear HC106
   try clear c103
   try clear c105
   try clear c105b0
   try clear c105b1
   try clear c107
   try clear c107b0
   try clear c107b1
   obtain ⟨kq, x68_105, rfl, HA, HJ105, HO_438005, HO_438006, HO_439005, HO_439006, HO_468002, HO_472006, HO_498006, BK437, BK438, BK439, BK467, BK471, BK497, HB⟩ := hcut
   cases kq with
   | zero => exact absurd HA.out (by simp [columbariumlaw13_PredPairs.j2])
   | succ kj105 =>
    have H := HA.out
    clear HA
    simp only [columbariumlaw13_PredPairs.j2] at H
    by_cases c108 : x68_105 = true
    ·subst c108
     rw [if_pos rfl] at H
     replace H := Option.bind_eq_some_iff.mp H
     obtain ⟨t514, A1090, H⟩ := H
     try dsimp only at H
     have A109 := zM A1090
     clear A1090
     obtain rfl := Option.some.inj H
     go_wp2_with (first | ((with_reducible refine gate_callee (f := 11) rfl ?_); refine goesL_ (some 69) rfl rfl Try.func11 (by kernel_rfl) rfl #[] rfl yb ?_; (with_reducible refine (columbariumlaw13_known.calls kj105  t514 _ A109.out).mono ?_); rintro e w110 ⟨rfl, hb⟩; refine ⟨_, rfl, ?_⟩; replace HO_438005 := zV HO_438005 hb; replace HO_438006 := zV HO_438006 hb; replace HO_439005 := zV HO_439005 hb; replace HO_439006 := zV HO_439006 hb; replace HO_468002 := zR HO_468002 hb; replace HO_472006 := zN HO_472006 hb; replace HO_498006 := zN HO_498006 hb; replace BK437 := zK BK437 hb; replace BK438 := zK BK438 hb; replace BK439 := zK BK439 hb; replace BK467 := zK BK467 hb; replace BK471 := zK BK471 hb; replace BK497 := zK BK497 hb; replace HB := zM (below_step mZ hb); (try clear hb)))
     go_ret
     exact ⟨by first | rfl | (simp [errW_none, errW_some] <;> rfl) | (simp [*, errW_none, errW_some] <;> rfl), mZ⟩
    replace c108 := Bool.eq_false_iff.mpr c108
    subst c108
    rw [if_neg (show ¬ (false = true) by decide)] at H
    obtain ⟨y515, hy515⟩ : ∃ y_ : List (S25), y_ = (([(⟨10, (⟨#[]⟩ : ByteArray), (-9223372036854775808), wrap64 (x3_103 - 1), (⟨#[]⟩ : ByteArray), ([] : List ByteArray), ([] : List (S25))⟩ : S25), (⟨10, (⟨#[]⟩ : ByteArray), x3_103, x4_103, (⟨#[]⟩ : ByteArray), ([] : List ByteArray), ([] : List (S25))⟩ : S25), (⟨10, (⟨#[]⟩ : ByteArray), wrap64 (x4_103 + 1), 9223372036854775807, (⟨#[]⟩ : ByteArray), ([] : List ByteArray), ([] : List (S25))⟩ : S25)] : List (S25))) := ⟨_, rfl⟩
    replace H : (columbariumlaw13_PredPairs.l0 kj105 x3_103 0 y515 (y515.length : Int) 0 t462 t463 t464) = some r := by first | (rw [hy515]; with_reducible exact H) | (have H2_ := (Option.bind_some _ _).symm.trans H; rw [hy515]; with_reducible exact H2_) | (have H2_ := (Option.bind_some _ _).symm.trans H; with_reducible exact H2_) | with_reducible exact H | (rw [hy515]; exact H) | exact H
    have Ny515 := zM hy515
    clear hy515
    have H' := Aside0.mk H
    clear H
    go_wp2_with (first | ((with_reducible refine gate_dst (N := 79) rfl ?_); refine Kd.N_lit k25 _ 25 ?hg (N' := 79) ?hd (xs := ([(⟨10, (⟨#[]⟩ : ByteArray), (-9223372036854775808), wrap64 (x3_103 - 1), (⟨#[]⟩ : ByteArray), ([] : List ByteArray), ([] : List (S25))⟩ : S25), (⟨10, (⟨#[]⟩ : ByteArray), x3_103, x4_103, (⟨#[]⟩ : ByteArray), ([] : List ByteArray), ([] : List (S25))⟩ : S25), (⟨10, (⟨#[]⟩ : ByteArray), wrap64 (x4_103 + 1), 9223372036854775807, (⟨#[]⟩ : ByteArray), ([] : List ByteArray), ([] : List (S25))⟩ : S25)] : List (S25))) (inner := [.int .i64 10, .string (⟨#[]⟩ : ByteArray), .int .i64 (-9223372036854775808), .int .i64 (wrap64 (x3_103 - 1)), .string (⟨#[]⟩ : ByteArray), .slice none 0 0, .slice none 0 0, .int .i64 10, .string (⟨#[]⟩ : ByteArray), .int .i64 x3_103, .int .i64 x4_103, .string (⟨#[]⟩ : ByteArray), .slice none 0 0, .slice none 0 0, .int .i64 10, .string (⟨#[]⟩ : ByteArray), .int .i64 (wrap64 (x4_103 + 1)), .int .i64 9223372036854775807, .string (⟨#[]⟩ : ByteArray), .slice none 0 0, .slice none 0 0]) (ok := (fun k_ => nb k_ Ao35 t464.length co35 ∧ nb k_ Ao41 y468.length co41 ∧ nb k_ Ao61 y494.length co61 ∧ k_ ≠ gb437 ∧ k_ ≠ gb438 ∧ k_ ≠ gb439 ∧ k_ ≠ gb467 ∧ k_ ≠ gb471 ∧ k_ ≠ gb497)) (okp := (fun k_ => nb k_ Ao35 t464.length co35 ∧ nb k_ Ao41 y468.length co41 ∧ nb k_ Ao61 y494.length co61 ∧ k_ ≠ gb437 ∧ k_ ≠ gb438 ∧ k_ ≠ gb439 ∧ k_ ≠ gb467 ∧ k_ ≠ gb471 ∧ k_ ≠ gb497)) ?hr ?hp (fun _ hk => hk) ((show ∀ k_, wc.heap.size ≤ k_ → (fun k_ => nb k_ Ao35 t464.length co35 ∧ nb k_ Ao41 y468.length co41 ∧ nb k_ Ao61 y494.length co61 ∧ k_ ≠ gb437 ∧ k_ ≠ gb438 ∧ k_ ≠ gb439 ∧ k_ ≠ gb467 ∧ k_ ≠ gb471 ∧ k_ ≠ gb497) k_ from fun k_ hk => ⟨fR HO_468002 hk, fN HO_472006 hk, fN HO_498006 hk, fK BK437 hk, fK BK438 hk, fK BK439 hk, fK BK467 hk, fK BK471 hk, fK BK497 hk⟩) _ (Nat.le_refl _)) (Below.refl _ _) (Nat.le_refl _) (by simp) ?_; (case hd => rfl); (case hg => rfl); (case hr => first | (go_simp; done) | (go_simp; rfl)); (case hp => exact (Reps.c7 (show Kd.FK k25 _ _ (⟨10, (⟨#[]⟩ : ByteArray), (-9223372036854775808), wrap64 (x3_103 - 1), (⟨#[]⟩ : ByteArray), ([] : List ByteArray), ([] : List (S25))⟩ : S25) [.int .i64 10, .string (⟨#[]⟩ : ByteArray), .int .i64 (-9223372036854775808), .int .i64 (wrap64 (x3_103 - 1)), .string (⟨#[]⟩ : ByteArray), .slice none 0 0, .slice none 0 0] from (k25_mkF _ _ (⟨10, (⟨#[]⟩ : ByteArray), (-9223372036854775808), wrap64 (x3_103 - 1), (⟨#[]⟩ : ByteArray), ([] : List ByteArray), ([] : List (S25))⟩ : S25) (Nat.le_refl _) (Kd.F_nil _ _ _) (Nat.le_refl _) (Kd.F_nil _ _ _))) (Reps.c7 (show Kd.FK k25 _ _ (⟨10, (⟨#[]⟩ : ByteArray), x3_103, x4_103, (⟨#[]⟩ : ByteArray), ([] : List ByteArray), ([] : List (S25))⟩ : S25) [.int .i64 10, .string (⟨#[]⟩ : ByteArray), .int .i64 x3_103, .int .i64 x4_103, .string (⟨#[]⟩ : ByteArray), .slice none 0 0, .slice none 0 0] from (k25_mkF _ _ (⟨10, (⟨#[]⟩ : ByteArray), x3_103, x4_103, (⟨#[]⟩ : ByteArray), ([] : List ByteArray), ([] : List (S25))⟩ : S25) (Nat.le_refl _) (Kd.F_nil _ _ _) (Nat.le_refl _) (Kd.F_nil _ _ _))) (Reps.c7 (show Kd.FK k25 _ _ (⟨10, (⟨#[]⟩ : ByteArray), wrap64 (x4_103 + 1), 9223372036854775807, (⟨#[]⟩ : ByteArray), ([] : List ByteArray), ([] : List (S25))⟩ : S25) [.int .i64 10, .string (⟨#[]⟩ : ByteArray), .int .i64 (wrap64 (x4_103 + 1)), .int .i64 9223372036854775807, .string (⟨#[]⟩ : ByteArray), .slice none 0 0, .slice none 0 0] from (k25_mkF _ _ (⟨10, (⟨#[]⟩ : ByteArray), wrap64 (x4_103 + 1), 9223372036854775807, (⟨#[]⟩ : ByteArray), ([] : List ByteArray), ([] : List (S25))⟩ : S25) (Nat.le_refl _) (Kd.F_nil _ _ _) (Nat.le_refl _) (Kd.F_nil _ _ _))) (Reps.none _ _))))); intro v516 w111 ho112 hb hg_ hnew_; clear hg_ hnew_; (first | rw [← Ny515.out] at ho112 | (simp only [Int.reduceToNat] at ho112; rw [← Ny515.out] at ho112)); replace HO_438005 := zM (Kd.V_elder' (mV HO_438005.out) (by first | exact Kd.N_base ho112 | exact Kd.N_base (Kd.R_N ho112)) hb); replace HO_438006 := zM (Kd.V_elder' (mV HO_438006.out) (by first | exact Kd.N_base ho112 | exact Kd.N_base (Kd.R_N ho112)) hb); replace HO_439005 := zM (Kd.V_elder' (mV HO_439005.out) (by first | exact Kd.N_base ho112 | exact Kd.N_base (Kd.R_N ho112)) hb); replace HO_439006 := zM (Kd.V_elder' (mV HO_439006.out) (by first | exact Kd.N_base ho112 | exact Kd.N_base (Kd.R_N ho112)) hb); replace HO_468002 := zR HO_468002 hb; replace HO_472006 := zM (Kd.N_elder' (mN HO_472006.out) (by first | exact Kd.N_base ho112 | exact Kd.N_base (Kd.R_N ho112)) hb); replace HO_498006 := zM (Kd.N_elder' (mN HO_498006.out) (by first | exact Kd.N_base ho112 | exact Kd.N_base (Kd.R_N ho112)) hb); have HO517 := zM (Kd.N_lower ho112 (below_size mZ)); replace BK437 := zK BK437 hb; replace BK438 := zK BK438 hb; replace BK439 := zK BK439 hb; replace BK467 := zK BK467 hb; replace BK471 := zK BK471 hb; replace BK497 := zK BK497 hb; replace HB := zM (below_step mZ hb); clear hb ho112; obtain ⟨Ao113, co113, eo113⟩ := Kd.N_slice HO517.out; subst eo113))
    try simp only [Act.put, List.setIfInBounds_toArray, List.set_cons_zero, List.set_cons_succ]
    go_loopg [14, 81] kj105 (fun kq v14 v81 w' => ∃ (x14_4 : Int) (x81_4 : Int), v14 = .int .i64 x14_4 ∧ v81 = .int .i64 x81_4 ∧ Aside0 (columbariumlaw13_PredPairs.l0 kq x3_103 x14_4 y515 (y515.length : Int) x81_4 t462 t463 t464 = some r) ∧ Aside0 (kq ≤ kj105) ∧ Aside0 (Kd.N k25 25 w' w.heap.size (fun k_ => nb k_ Ao35 t464.length co35 ∧ nb k_ Ao41 y468.length co41 ∧ nb k_ Ao61 y494.length co61 ∧ k_ ≠ gb437 ∧ k_ ≠ gb438 ∧ k_ ≠ gb439 ∧ k_ ≠ gb467 ∧ k_ ≠ gb471 ∧ k_ ≠ gb497) (.slice Ao113 y515.length co113) y515) ∧ Aside0 (Kd.V Kd.string 9 w' w.heap.size (fun k_ => nb k_ Ao113 y515.length co113 ∧ nb k_ Ao35 t464.length co35 ∧ nb k_ Ao41 y468.length co41 ∧ nb k_ Ao61 y494.length co61 ∧ k_ ≠ gb437 ∧ k_ ≠ gb438 ∧ k_ ≠ gb439 ∧ k_ ≠ gb467 ∧ k_ ≠ gb471 ∧ k_ ≠ gb497) (.slice Ao20 t445.length co20) t445) ∧ Aside0 (Kd.V k25 25 w' w.heap.size (fun k_ => nb k_ Ao113 y515.length co113 ∧ nb k_ Ao35 t464.length co35 ∧ nb k_ Ao41 y468.length co41 ∧ nb k_ Ao61 y494.length co61 ∧ k_ ≠ gb437 ∧ k_ ≠ gb438 ∧ k_ ≠ gb439 ∧ k_ ≠ gb467 ∧ k_ ≠ gb471 ∧ k_ ≠ gb497) (.slice Ao21 t448.length co21) t448) ∧ Aside0 (Kd.V Kd.string 9 w' w.heap.size (fun k_ => nb k_ Ao113 y515.length co113 ∧ nb k_ Ao35 t464.length co35 ∧ nb k_ Ao41 y468.length co41 ∧ nb k_ Ao61 y494.length co61 ∧ k_ ≠ gb437 ∧ k_ ≠ gb438 ∧ k_ ≠ gb439 ∧ k_ ≠ gb467 ∧ k_ ≠ gb471 ∧ k_ ≠ gb497) (.slice Ao26 t456.length co26) t456) ∧ Aside0 (Kd.V k25 25 w' w.heap.size (fun k_ => nb k_ Ao113 y515.length co113 ∧ nb k_ Ao35 t464.length co35 ∧ nb k_ Ao41 y468.length co41 ∧ nb k_ Ao61 y494.length co61 ∧ k_ ≠ gb437 ∧ k_ ≠ gb438 ∧ k_ ≠ gb439 ∧ k_ ≠ gb467 ∧ k_ ≠ gb471 ∧ k_ ≠ gb497) (.slice Ao27 t459.length co27) t459) ∧ Aside0 (Kd.R k52 52 w' w.heap.size (fun _ => True) (.slice Ao35 t464.length co35) t464) ∧ Aside0 (Kd.N k25 25 w' w.heap.size (fun k_ => nb k_ Ao113 y515.length co113 ∧ nb k_ Ao35 t464.length co35 ∧ nb k_ Ao61 y494.length co61 ∧ k_ ≠ gb437 ∧ k_ ≠ gb438 ∧ k_ ≠ gb439 ∧ k_ ≠ gb467 ∧ k_ ≠ gb471 ∧ k_ ≠ gb497) (.slice Ao41 y468.length co41) y468) ∧ Aside0 (Kd.N k25 25 w' w.heap.size (fun k_ => nb k_ Ao113 y515.length co113 ∧ nb k_ Ao35 t464.length co35 ∧ nb k_ Ao41 y468.length co41 ∧ k_ ≠ gb437 ∧ k_ ≠ gb438 ∧ k_ ≠ gb439 ∧ k_ ≠ gb467 ∧ k_ ≠ gb471 ∧ k_ ≠ gb497) (.slice Ao61 y494.length co61) y494) ∧ Aside0 (w'.heap[gb437]? = some (.cells #[.int .i64 t440, .string t441, .int .i64 t442, .int .i64 t443, .string t444, (.slice Ao20 t445.length co20), (.slice Ao21 t448.length co21)] 25 (0, 0))) ∧ Aside0 (w'.heap[gb438]? = some (.cells #[.int .i64 t451, .string t452, .int .i64 t453, .int .i64 t454, .string t455, (.slice Ao26 t456.length co26), (.slice Ao27 t459.length co27)] 25 (0, 0))) ∧ Aside0 (w'.heap[gb439]? = some (.cells #[.int .i64 a2_0, .int .i64 a2_1, (.slice A2_2 l2_2.length c2_2)] 36 (0, 0))) ∧ Aside0 (w'.heap[gb467]? = some (.cells #[.int .i64 t462, .int .i64 t463, (.slice Ao35 t464.length co35)] 36 (0, 0))) ∧ Aside0 (w'.heap[gb471]? = some (.cells #[.int .i64 1, .string (⟨#[]⟩ : ByteArray), .int .i64 0, .int .i64 0, .string (⟨#[]⟩ : ByteArray), (.slice none 0 0), (.slice Ao41 y468.length co41)] 25 (0, 0))) ∧ Aside0 (w'.heap[gb497]? = some (.cells #[.int .i64 2, .string (⟨#[]⟩ : ByteArray), .int .i64 0, .int .i64 0, .string (⟨#[]⟩ : ByteArray), (.slice none 0 0), (.slice Ao61 y494.length co61)] 25 (0, 0))) ∧ Aside0 (Below w.heap.size w w'))
    case atStart => exact ⟨(0), (0), ya, ya, H', ⟨Nat.le_refl _⟩, ⟨mN HO517.out⟩, ⟨yV HO_438005 (fun _ hk => ⟨hk.2, ⟨hk.1.1, ⟨hk.1.2.1, ⟨hk.1.2.2.1, ⟨hk.1.2.2.2.1, ⟨hk.1.2.2.2.2.1, ⟨hk.1.2.2.2.2.2.1, ⟨hk.1.2.2.2.2.2.2.1, ⟨hk.1.2.2.2.2.2.2.2.1, hk.1.2.2.2.2.2.2.2.2⟩⟩⟩⟩⟩⟩⟩⟩⟩)⟩, ⟨yV HO_438006 (fun _ hk => ⟨hk.2, ⟨hk.1.1, ⟨hk.1.2.1, ⟨hk.1.2.2.1, ⟨hk.1.2.2.2.1, ⟨hk.1.2.2.2.2.1, ⟨hk.1.2.2.2.2.2.1, ⟨hk.1.2.2.2.2.2.2.1, ⟨hk.1.2.2.2.2.2.2.2.1, hk.1.2.2.2.2.2.2.2.2⟩⟩⟩⟩⟩⟩⟩⟩⟩)⟩, ⟨yV HO_439005 (fun _ hk => ⟨hk.2, ⟨hk.1.1, ⟨hk.1.2.1, ⟨hk.1.2.2.1, ⟨hk.1.2.2.2.1, ⟨hk.1.2.2.2.2.1, ⟨hk.1.2.2.2.2.2.1, ⟨hk.1.2.2.2.2.2.2.1, ⟨hk.1.2.2.2.2.2.2.2.1, hk.1.2.2.2.2.2.2.2.2⟩⟩⟩⟩⟩⟩⟩⟩⟩)⟩, ⟨yV HO_439006 (fun _ hk => ⟨hk.2, ⟨hk.1.1, ⟨hk.1.2.1, ⟨hk.1.2.2.1, ⟨hk.1.2.2.2.1, ⟨hk.1.2.2.2.2.1, ⟨hk.1.2.2.2.2.2.1, ⟨hk.1.2.2.2.2.2.2.1, ⟨hk.1.2.2.2.2.2.2.2.1, hk.1.2.2.2.2.2.2.2.2⟩⟩⟩⟩⟩⟩⟩⟩⟩)⟩, ⟨mR HO_468002.out⟩, ⟨yN HO_472006 (fun _ hk => ⟨hk.2, ⟨hk.1.1, ⟨hk.1.2.1, ⟨hk.1.2.2.1, ⟨hk.1.2.2.2.1, ⟨hk.1.2.2.2.2.1, ⟨hk.1.2.2.2.2.2.1, ⟨hk.1.2.2.2.2.2.2.1, hk.1.2.2.2.2.2.2.2⟩⟩⟩⟩⟩⟩⟩⟩)⟩, ⟨yN HO_498006 (fun _ hk => ⟨hk.2, ⟨hk.1.1, ⟨hk.1.2.1, ⟨hk.1.2.2.1, ⟨hk.1.2.2.2.1, ⟨hk.1.2.2.2.2.1, ⟨hk.1.2.2.2.2.2.1, ⟨hk.1.2.2.2.2.2.2.1, hk.1.2.2.2.2.2.2.2⟩⟩⟩⟩⟩⟩⟩⟩)⟩, ⟨mK BK437.out⟩, ⟨mK BK438.out⟩, ⟨mK BK439.out⟩, ⟨mK BK467.out⟩, ⟨mK BK471.out⟩, ⟨mK BK497.out⟩, ⟨mZ⟩⟩
    case round =>
     clear H'
     try clear c7
     try clear c103
     try clear c105
     try clear c105b0
     try clear c105b1
     try clear c107
     try clear c107b0
     try clear c107b1
     try clear c108
     try clear BK437
     try clear BK438
     try clear BK439
     try clear BK467
     try clear BK471
     try clear BK497
     obtain ⟨x14_4, x81_4, rfl, rfl, HA, HK4, HO_79, HO_438005, HO_438006, HO_439005, HO_439006, HO_468002, HO_472006, HO_498006, BK437, BK438, BK439, BK467, BK471, BK497, HB⟩ := hrel
     cases gk with
     | zero => exact absurd HA.out (by simp [columbariumlaw13_PredPairs.l0])
     | succ k4 =>
      have H := HA.out
      clear HA
      simp only [columbariumlaw13_PredPairs.l0] at H
      by_cases c114 : x81_4 < (y515.length : Int)
      ·rw [if_pos c114] at H
       have c114b0 : decide (x81_4 < (y515.length : Int)) = true := decide_eq_true c114
       clear c114
       by_cases c115 : 0 ≤ x81_4
       ·rw [if_pos c115] at H
        have c115b0 : decide (0 ≤ x81_4) = true := decide_eq_true c115
        clear c115
        by_cases c116 : x81_4 < (y515.length : Int)
        ·rw [if_pos c116] at H
         have c116b0 : decide (x81_4 < (y515.length : Int)) = true := decide_eq_true c116
         clear c116
         replace H := Option.bind_eq_some_iff.mp H
         obtain ⟨t520, A1170, H⟩ := H
         try dsimp only at H
         have A117 := zM A1170
         clear A1170
         by_cases c118 : t520 = true
         ·subst c118
          rw [if_pos rfl] at H
          have H' := Aside0.mk H
          clear H
          have p518 : 0 ≤ (x81_4 : Int) := zA
          have q518 : x81_4 < (y515.length : Int) := zA
          obtain ⟨ad518, A518_5, c518_5, A518_6, c518_6, e518, hx518_0, hx518_1, hx518_2, hx518_3, hx518_4, hx518_5, hx518_6, hl518_5, hi518_5, hl518_6, hi518_6⟩ := at_T25 (Kd.N_reads' HO_79.out).2.2 x81_4 p518 q518
          cases e518
          obtain ⟨ce518, hce518, hMe518, hcc518⟩ := Kd.N_get HO_79.out z25 x81_4 p518 (by first | exact q518 | exact zA | (have e_ := (Kd.N_reads' HO_79.out).1; omega))
          obtain ⟨ua518_5, uc518_5, ua518_6, uc518_6, rfl, ul518_5, ge518_5, ul518_6, ge518_6⟩ := k25_openF hMe518
          have hv518_5 := hcc518 5 _ rfl
          rw [add_field _ _ 5 (by omega)] at hv518_5
          replace hv518_5 := Option.some.inj (hv518_5.symm.trans hx518_5)
          injection hv518_5 with hva_ hvn_ hvc_
          rw [hva_] at ge518_5
          rw [hvc_] at ul518_5
          have HL518_5 := zM (show Kd.V Kd.string 9 _ w.heap.size _ _ ((rd_T25 y515 x81_4).f5) from Kd.V_mk ul518_5 ge518_5)
          clear hva_ hvn_ hvc_ ge518_5 ul518_5
          have hv518_6 := hcc518 6 _ rfl
          rw [add_field _ _ 6 (by omega)] at hv518_6
          replace hv518_6 := Option.some.inj (hv518_6.symm.trans hx518_6)
          injection hv518_6 with hva_ hvn_ hvc_
          rw [hva_] at ge518_6
          rw [hvc_] at ul518_6
          have HL518_6 := zM (show Kd.V k25 25 _ w.heap.size _ _ ((rd_T25 y515 x81_4).f6) from Kd.V_mk ul518_6 ge518_6)
          clear hva_ hvn_ hvc_ ge518_6 ul518_6
          clear hcc518 hce518
          have HR518_5 := zM hi518_5
          have HC518_5 := zM hl518_5
          clear hi518_5 hl518_5
          have HR518_6 := zM hi518_6
          have HC518_6 := zM hl518_6
          clear hi518_6 hl518_6
          replace p518 := eq_true p518
          replace q518 := eq_true q518
          go_wp2_with (first | ((with_reducible refine gate_dst (N := 16) rfl ?_); refine box_event ?hg (N := 16) ?hd (cs := #[.int .i64 0, .string (⟨#[]⟩ : ByteArray), .int .i64 0, .int .i64 0, .string (⟨#[]⟩ : ByteArray), .slice none 0 0, .slice none 0 0]) (t := 25) ?hr ?_; (case hd => rfl); (case hg => rfl); (case hr => first | (go_simp; done) | (go_simp; rfl)); intro gb519 hg w119 hbox hb; replace HO_79 := zM (Kd.N_below (Kd.N_elderB (mN HO_79.out) gb519 (Nat.le_of_eq hg.symm)) hb); replace HO_438005 := zM (Kd.V_below (Kd.V_elderB (mV HO_438005.out) gb519 (Nat.le_of_eq hg.symm)) hb); replace HO_438006 := zM (Kd.V_below (Kd.V_elderB (mV HO_438006.out) gb519 (Nat.le_of_eq hg.symm)) hb); replace HO_439005 := zM (Kd.V_below (Kd.V_elderB (mV HO_439005.out) gb519 (Nat.le_of_eq hg.symm)) hb); replace HO_439006 := zM (Kd.V_below (Kd.V_elderB (mV HO_439006.out) gb519 (Nat.le_of_eq hg.symm)) hb); replace HO_468002 := zR HO_468002 hb; replace HO_472006 := zM (Kd.N_below (Kd.N_elderB (mN HO_472006.out) gb519 (Nat.le_of_eq hg.symm)) hb); replace HO_498006 := zM (Kd.N_below (Kd.N_elderB (mN HO_498006.out) gb519 (Nat.le_of_eq hg.symm)) hb); replace HL518_5 := zM (Kd.V_below (Kd.V_elderB (mV HL518_5.out) gb519 (Nat.le_of_eq hg.symm)) hb); replace HL518_6 := zM (Kd.V_below (Kd.V_elderB (mV HL518_6.out) gb519 (Nat.le_of_eq hg.symm)) hb); replace HR518_5 := zM (Kd.C_below (by repeat (first | (with_reducible exact HR518_5.out) | (with_reducible refine Kd.C_alloc ?_ _) | (with_reducible refine Kd.C_drewN ?_ _) | (with_reducible refine Kd.C_drew ?_) | exact HR518_5.out)) hb); replace HR518_6 := zM (Kd.C_below (by repeat (first | (with_reducible exact HR518_6.out) | (with_reducible refine Kd.C_alloc ?_ _) | (with_reducible refine Kd.C_drewN ?_ _) | (with_reducible refine Kd.C_drew ?_) | exact HR518_6.out)) hb); have BK519 := zM (hbox); have GW519 := zM ((by rw [hg]; exact (below_size mZ) : w.heap.size ≤ gb519)); replace HB := zM (below_step mZ hb); have GE519 := GW519; have NB437_519 := zL BK437 hg; have NB519_437 := zG BK437 hg; replace BK437 := zK BK437 hb; have NB438_519 := zL BK438 hg; have NB519_438 := zG BK438 hg; replace BK438 := zK BK438 hb; have NB439_519 := zL BK439 hg; have NB519_439 := zG BK439 hg; replace BK439 := zK BK439 hb; have NB467_519 := zL BK467 hg; have NB519_467 := zG BK467 hg; replace BK467 := zK BK467 hb; have NB471_519 := zL BK471 hg; have NB519_471 := zG BK471 hg; replace BK471 := zK BK471 hb; have NB497_519 := zL BK497 hg; have NB519_497 := zG BK497 hg; replace BK497 := zK BK497 hb; clear hb hbox hg; have hnb120 := NB519_437.out; have hnc120 := NB437_519.out; have hnb121 := NB519_438.out; have hnc121 := NB438_519.out; have hnb122 := NB519_439.out; have hnc122 := NB439_519.out; have hnb123 := NB519_467.out; have hnc123 := NB467_519.out; have hnb124 := NB519_471.out; have hnc124 := NB471_519.out; have hnb125 := NB519_497.out; have hnc125 := NB497_519.out; obtain ⟨hcz126_0, hcz126_1, hcz126_2, hcz126_3, hcz126_4, hcz126_5, hcz126_6, hfz126_0, hfz126_1, hfz126_2, hfz126_3, hfz126_4, hfz126_5, hfz126_6⟩ := cells_7 BK519.out; have hnb127 := NB467_437.out; have hnc127 := NB437_467.out; have hnb128 := NB467_438.out; have hnc128 := NB438_467.out; have hnb129 := NB467_439.out; have hnc129 := NB439_467.out; have hnb130 := NB467_471.out; have hnc130 := NB471_467.out; have hnb131 := NB467_497.out; have hnc131 := NB497_467.out; obtain ⟨hcz132_0, hcz132_1, hcz132_2, hfz132_0, hfz132_1, hfz132_2⟩ := cells_3 BK467.out) | ((with_reducible refine gate_callee (f := 15) rfl ?_); refine goesL_ (some 87) rfl rfl Try.func15 (by kernel_rfl) rfl #[.agg #[.int .i64 ((rd_T25 y515 x81_4).f0), .string ((rd_T25 y515 x81_4).f1), .int .i64 ((rd_T25 y515 x81_4).f2), .int .i64 ((rd_T25 y515 x81_4).f3), .string ((rd_T25 y515 x81_4).f4), .slice A518_5 ((rd_T25 y515 x81_4).f5).length c518_5, .slice A518_6 ((rd_T25 y515 x81_4).f6).length c518_6], .agg #[.int .i64 t462, .int .i64 t463, .slice Ao35 t464.length co35]] rfl yb ?_; (with_reducible refine (pred_Eval.calls k4 ((rd_T25 y515 x81_4).f0) ((rd_T25 y515 x81_4).f1) ((rd_T25 y515 x81_4).f2) ((rd_T25 y515 x81_4).f3) ((rd_T25 y515 x81_4).f4) _ _ ((rd_T25 y515 x81_4).f5) _ _ ((rd_T25 y515 x81_4).f6) t462 t463 _ _ t464 true _ ?side1 ?side2 ?side3 ?side4 ?side5 ?side6 A117.out).mono ?_); (case side1 => repeat (first | exact ((Kd.V_reads' (by (with_reducible repeat (first | apply Kd.V_alloc | apply Kd.V_drewN | apply Kd.V_drew)); exact (Kd.V_mono (zgV (Kd.V_mono HL518_5.out (fun k_ hk => (⟨hk, hk.2⟩ : _ ∧ k_ ≠ gb519)))) (fun _ h_ => h_.1)))).2.2) | (with_reducible refine Kd.C_alloc ?_ _) | (with_reducible refine Kd.C_drewN ?_ _) | (with_reducible refine Kd.C_drew ?_))); (case side2 => first | exact HC518_5.out | exact Kd.V_mono HC518_5.out (fun k_ hk_ => by grind)); (case side3 => repeat (first | exact ((Kd.V_reads' (by (with_reducible repeat (first | apply Kd.V_alloc | apply Kd.V_drewN | apply Kd.V_drew)); exact (Kd.V_mono (zgV (Kd.V_mono HL518_6.out (fun k_ hk => (⟨hk, hk.2⟩ : _ ∧ k_ ≠ gb519)))) (fun _ h_ => h_.1)))).2.2) | (with_reducible refine Kd.C_alloc ?_ _) | (with_reducible refine Kd.C_drewN ?_ _) | (with_reducible refine Kd.C_drew ?_))); (case side4 => first | exact HC518_6.out | exact Kd.V_mono HC518_6.out (fun k_ hk_ => by grind)); (case side5 => refine (Kd.R_reads' (e := 52) (base := w.heap.size) (ok := fun k_ => True) (n := t464.length) (c := co35) ?_).2.2; exact (by (with_reducible repeat (first | apply Kd.R_alloc | apply Kd.R_drewN | apply Kd.R_drew)); exact (Kd.R_mono (zgR (Kd.R_types HO_468002.out BK519.out (by decide))) (fun _ h_ => h_.1)))); (case side6 => exact (Kd.R_reads' HO_468002.out).2.1); rintro e w133 ⟨rfl, hb⟩; refine ⟨_, rfl, ?_⟩; replace HO_79 := zM (Kd.N_below (by (with_reducible repeat (first | apply Kd.N_alloc | apply Kd.N_drewN | apply Kd.N_drew)); exact (Kd.N_mono (zgN (Kd.N_mono HO_79.out (fun k_ hk => (⟨hk, hk.2⟩ : _ ∧ k_ ≠ gb519)))) (fun _ h_ => h_.1))) hb); replace HO_438005 := zM (Kd.V_below (by (with_reducible repeat (first | apply Kd.V_alloc | apply Kd.V_drewN | apply Kd.V_drew)); exact (Kd.V_mono (zgV (Kd.V_mono HO_438005.out (fun k_ hk => (⟨hk, hk.2⟩ : _ ∧ k_ ≠ gb519)))) (fun _ h_ => h_.1))) hb); replace HO_438006 := zM (Kd.V_below (by (with_reducible repeat (first | apply Kd.V_alloc | apply Kd.V_drewN | apply Kd.V_drew)); exact (Kd.V_mono (zgV (Kd.V_mono HO_438006.out (fun k_ hk => (⟨hk, hk.2⟩ : _ ∧ k_ ≠ gb519)))) (fun _ h_ => h_.1))) hb); replace HO_439005 := zM (Kd.V_below (by (with_reducible repeat (first | apply Kd.V_alloc | apply Kd.V_drewN | apply Kd.V_drew)); exact (Kd.V_mono (zgV (Kd.V_mono HO_439005.out (fun k_ hk => (⟨hk, hk.2⟩ : _ ∧ k_ ≠ gb519)))) (fun _ h_ => h_.1))) hb); replace HO_439006 := zM (Kd.V_below (by (with_reducible repeat (first | apply Kd.V_alloc | apply Kd.V_drewN | apply Kd.V_drew)); exact (Kd.V_mono (zgV (Kd.V_mono HO_439006.out (fun k_ hk => (⟨hk, hk.2⟩ : _ ∧ k_ ≠ gb519)))) (fun _ h_ => h_.1))) hb); replace HO_468002 := zM (Kd.R_below (by (with_reducible repeat (first | apply Kd.R_alloc | apply Kd.R_drewN | apply Kd.R_drew)); exact (Kd.R_mono (zgR (Kd.R_types HO_468002.out BK519.out (by decide))) (fun _ h_ => h_.1))) hb); replace HO_472006 := zM (Kd.N_below (by (with_reducible repeat (first | apply Kd.N_alloc | apply Kd.N_drewN | apply Kd.N_drew)); exact (Kd.N_mono (zgN (Kd.N_mono HO_472006.out (fun k_ hk => (⟨hk, hk.2⟩ : _ ∧ k_ ≠ gb519)))) (fun _ h_ => h_.1))) hb); replace HO_498006 := zM (Kd.N_below (by (with_reducible repeat (first | apply Kd.N_alloc | apply Kd.N_drewN | apply Kd.N_drew)); exact (Kd.N_mono (zgN (Kd.N_mono HO_498006.out (fun k_ hk => (⟨hk, hk.2⟩ : _ ∧ k_ ≠ gb519)))) (fun _ h_ => h_.1))) hb); replace BK437 := zM (blk_below (zF BK437.out NB437_519.out) hb); replace BK438 := zM (blk_below (zF BK438.out NB438_519.out) hb); replace BK439 := zM (blk_below (zF BK439.out NB439_519.out) hb); replace BK467 := zM (blk_below (zF BK467.out NB467_519.out) hb); replace BK471 := zM (blk_below (zF BK471.out NB471_519.out) hb); replace BK497 := zM (blk_below (zF BK497.out NB497_519.out) hb); replace HR518_5 := zM (Kd.C_below ((Kd.V_reads' (by (with_reducible repeat (first | apply Kd.V_alloc | apply Kd.V_drewN | apply Kd.V_drew)); exact (Kd.V_mono (zgV (Kd.V_mono HL518_5.out (fun k_ hk => (⟨hk, hk.2⟩ : _ ∧ k_ ≠ gb519)))) (fun _ h_ => h_.1)))).2.2) hb); replace HL518_5 := zM (Kd.V_below (by (with_reducible repeat (first | apply Kd.V_alloc | apply Kd.V_drewN | apply Kd.V_drew)); exact (Kd.V_mono (zgV (Kd.V_mono HL518_5.out (fun k_ hk => (⟨hk, hk.2⟩ : _ ∧ k_ ≠ gb519)))) (fun _ h_ => h_.1))) hb); replace HR518_6 := zM (Kd.C_below ((Kd.V_reads' (by (with_reducible repeat (first | apply Kd.V_alloc | apply Kd.V_drewN | apply Kd.V_drew)); exact (Kd.V_mono (zgV (Kd.V_mono HL518_6.out (fun k_ hk => (⟨hk, hk.2⟩ : _ ∧ k_ ≠ gb519)))) (fun _ h_ => h_.1)))).2.2) hb); replace HL518_6 := zM (Kd.V_below (by (with_reducible repeat (first | apply Kd.V_alloc | apply Kd.V_drewN | apply Kd.V_drew)); exact (Kd.V_mono (zgV (Kd.V_mono HL518_6.out (fun k_ hk => (⟨hk, hk.2⟩ : _ ∧ k_ ≠ gb519)))) (fun _ h_ => h_.1))) hb); replace BK519 := zP7 BK519 hb; replace HB := zM (below_step mZ hb); (try clear hb)))
          go_roundg k4
          case measure => have := HJ10.out; have := HJ103.out; have := HJ105.out; have := HK4.out; omega
          case rel => exact ⟨(wrap64 (x14_4 + 1)), (wrap64 (x81_4 + 1)), ya, ya, H', ⟨by have := HJ10.out; have := HJ103.out; have := HJ105.out; have := HK4.out; omega⟩, ⟨yN HO_79 (fun _ hk => ⟨hk.1.1, ⟨hk.1.2.1, ⟨hk.1.2.2.1, ⟨hk.1.2.2.2.1, ⟨hk.1.2.2.2.2.1, ⟨hk.1.2.2.2.2.2.1, ⟨hk.1.2.2.2.2.2.2.1, ⟨hk.1.2.2.2.2.2.2.2.1, hk.1.2.2.2.2.2.2.2.2⟩⟩⟩⟩⟩⟩⟩⟩)⟩, ⟨yV HO_438005 (fun _ hk => ⟨hk.1.1, ⟨hk.1.2.1, ⟨hk.1.2.2.1, ⟨hk.1.2.2.2.1, ⟨hk.1.2.2.2.2.1, ⟨hk.1.2.2.2.2.2.1, ⟨hk.1.2.2.2.2.2.2.1, ⟨hk.1.2.2.2.2.2.2.2.1, ⟨hk.1.2.2.2.2.2.2.2.2.1, hk.1.2.2.2.2.2.2.2.2.2⟩⟩⟩⟩⟩⟩⟩⟩⟩)⟩, ⟨yV HO_438006 (fun _ hk => ⟨hk.1.1, ⟨hk.1.2.1, ⟨hk.1.2.2.1, ⟨hk.1.2.2.2.1, ⟨hk.1.2.2.2.2.1, ⟨hk.1.2.2.2.2.2.1, ⟨hk.1.2.2.2.2.2.2.1, ⟨hk.1.2.2.2.2.2.2.2.1, ⟨hk.1.2.2.2.2.2.2.2.2.1, hk.1.2.2.2.2.2.2.2.2.2⟩⟩⟩⟩⟩⟩⟩⟩⟩)⟩, ⟨yV HO_439005 (fun _ hk => ⟨hk.1.1, ⟨hk.1.2.1, ⟨hk.1.2.2.1, ⟨hk.1.2.2.2.1, ⟨hk.1.2.2.2.2.1, ⟨hk.1.2.2.2.2.2.1, ⟨hk.1.2.2.2.2.2.2.1, ⟨hk.1.2.2.2.2.2.2.2.1, ⟨hk.1.2.2.2.2.2.2.2.2.1, hk.1.2.2.2.2.2.2.2.2.2⟩⟩⟩⟩⟩⟩⟩⟩⟩)⟩, ⟨yV HO_439006 (fun _ hk => ⟨hk.1.1, ⟨hk.1.2.1, ⟨hk.1.2.2.1, ⟨hk.1.2.2.2.1, ⟨hk.1.2.2.2.2.1, ⟨hk.1.2.2.2.2.2.1, ⟨hk.1.2.2.2.2.2.2.1, ⟨hk.1.2.2.2.2.2.2.2.1, ⟨hk.1.2.2.2.2.2.2.2.2.1, hk.1.2.2.2.2.2.2.2.2.2⟩⟩⟩⟩⟩⟩⟩⟩⟩)⟩, ⟨mR HO_468002.out⟩, ⟨yN HO_472006 (fun _ hk => ⟨hk.1.1, ⟨hk.1.2.1, ⟨hk.1.2.2.1, ⟨hk.1.2.2.2.1, ⟨hk.1.2.2.2.2.1, ⟨hk.1.2.2.2.2.2.1, ⟨hk.1.2.2.2.2.2.2.1, ⟨hk.1.2.2.2.2.2.2.2.1, hk.1.2.2.2.2.2.2.2.2⟩⟩⟩⟩⟩⟩⟩⟩)⟩, ⟨yN HO_498006 (fun _ hk => ⟨hk.1.1, ⟨hk.1.2.1, ⟨hk.1.2.2.1, ⟨hk.1.2.2.2.1, ⟨hk.1.2.2.2.2.1, ⟨hk.1.2.2.2.2.2.1, ⟨hk.1.2.2.2.2.2.2.1, ⟨hk.1.2.2.2.2.2.2.2.1, hk.1.2.2.2.2.2.2.2.2⟩⟩⟩⟩⟩⟩⟩⟩)⟩, ⟨mK BK437.out⟩, ⟨mK BK438.out⟩, ⟨mK BK439.out⟩, ⟨mK BK467.out⟩, ⟨mK BK471.out⟩, ⟨mK BK497.out⟩, ⟨mZ⟩⟩
         replace c118 := Bool.eq_false_iff.mpr c118
         subst c118
         rw [if_neg (show ¬ (false = true) by decide)] at H
         have H' := Aside0.mk H
         clear H
         have p518 : 0 ≤ (x81_4 : Int) := zA
         have q518 : x81_4 < (y515.length : Int) := zA
         obtain ⟨ad518, A518_5, c518_5, A518_6, c518_6, e518, hx518_0, hx518_1, hx518_2, hx518_3, hx518_4, hx518_5, hx518_6, hl518_5, hi518_5, hl518_6, hi518_6⟩ := at_T25 (Kd.N_reads' HO_79.out).2.2 x81_4 p518 q518
         cases e518
         obtain ⟨ce518, hce518, hMe518, hcc518⟩ := Kd.N_get HO_79.out z25 x81_4 p518 (by first | exact q518 | exact zA | (have e_ := (Kd.N_reads' HO_79.out).1; omega))
         obtain ⟨ua518_5, uc518_5, ua518_6, uc518_6, rfl, ul518_5, ge518_5, ul518_6, ge518_6⟩ := k25_openF hMe518
         have hv518_5 := hcc518 5 _ rfl
         rw [add_field _ _ 5 (by omega)] at hv518_5
         replace hv518_5 := Option.some.inj (hv518_5.symm.trans hx518_5)
         injection hv518_5 with hva_ hvn_ hvc_
         rw [hva_] at ge518_5
         rw [hvc_] at ul518_5
         have HL518_5 := zM (show Kd.V Kd.string 9 _ w.heap.size _ _ ((rd_T25 y515 x81_4).f5) from Kd.V_mk ul518_5 ge518_5)
         clear hva_ hvn_ hvc_ ge518_5 ul518_5
         have hv518_6 := hcc518 6 _ rfl
         rw [add_field _ _ 6 (by omega)] at hv518_6
         replace hv518_6 := Option.some.inj (hv518_6.symm.trans hx518_6)
         injection hv518_6 with hva_ hvn_ hvc_
         rw [hva_] at ge518_6
         rw [hvc_] at ul518_6
         have HL518_6 := zM (show Kd.V k25 25 _ w.heap.size _ _ ((rd_T25 y515 x81_4).f6) from Kd.V_mk ul518_6 ge518_6)
         clear hva_ hvn_ hvc_ ge518_6 ul518_6
         clear hcc518 hce518
         have HR518_5 := zM hi518_5
         have HC518_5 := zM hl518_5
         clear hi518_5 hl518_5
         have HR518_6 := zM hi518_6
         have HC518_6 := zM hl518_6
         clear hi518_6 hl518_6
         replace p518 := eq_true p518
         replace q518 := eq_true q518
         go_wp2_with (first | ((with_reducible refine gate_dst (N := 16) rfl ?_); refine box_event ?hg (N := 16) ?hd (cs := #[.int .i64 0, .string (⟨#[]⟩ : ByteArray), .int .i64 0, .int .i64 0, .string (⟨#[]⟩ : ByteArray), .slice none 0 0, .slice none 0 0]) (t := 25) ?hr ?_; (case hd => rfl); (case hg => rfl); (case hr => first | (go_simp; done) | (go_simp; rfl)); intro gb519 hg w134 hbox hb; replace HO_79 := zM (Kd.N_below (Kd.N_elderB (mN HO_79.out) gb519 (Nat.le_of_eq hg.symm)) hb); replace HO_438005 := zM (Kd.V_below (Kd.V_elderB (mV HO_438005.out) gb519 (Nat.le_of_eq hg.symm)) hb); replace HO_438006 := zM (Kd.V_below (Kd.V_elderB (mV HO_438006.out) gb519 (Nat.le_of_eq hg.symm)) hb); replace HO_439005 := zM (Kd.V_below (Kd.V_elderB (mV HO_439005.out) gb519 (Nat.le_of_eq hg.symm)) hb); replace HO_439006 := zM (Kd.V_below (Kd.V_elderB (mV HO_439006.out) gb519 (Nat.le_of_eq hg.symm)) hb); replace HO_468002 := zR HO_468002 hb; replace HO_472006 := zM (Kd.N_below (Kd.N_elderB (mN HO_472006.out) gb519 (Nat.le_of_eq hg.symm)) hb); replace HO_498006 := zM (Kd.N_below (Kd.N_elderB (mN HO_498006.out) gb519 (Nat.le_of_eq hg.symm)) hb); replace HL518_5 := zM (Kd.V_below (Kd.V_elderB (mV HL518_5.out) gb519 (Nat.le_of_eq hg.symm)) hb); replace HL518_6 := zM (Kd.V_below (Kd.V_elderB (mV HL518_6.out) gb519 (Nat.le_of_eq hg.symm)) hb); replace HR518_5 := zM (Kd.C_below (by repeat (first | (with_reducible exact HR518_5.out) | (with_reducible refine Kd.C_alloc ?_ _) | (with_reducible refine Kd.C_drewN ?_ _) | (with_reducible refine Kd.C_drew ?_) | exact HR518_5.out)) hb); replace HR518_6 := zM (Kd.C_below (by repeat (first | (with_reducible exact HR518_6.out) | (with_reducible refine Kd.C_alloc ?_ _) | (with_reducible refine Kd.C_drewN ?_ _) | (with_reducible refine Kd.C_drew ?_) | exact HR518_6.out)) hb); have BK519 := zM (hbox); have GW519 := zM ((by rw [hg]; exact (below_size mZ) : w.heap.size ≤ gb519)); replace HB := zM (below_step mZ hb); have GE519 := GW519; have NB437_519 := zL BK437 hg; have NB519_437 := zG BK437 hg; replace BK437 := zK BK437 hb; have NB438_519 := zL BK438 hg; have NB519_438 := zG BK438 hg; replace BK438 := zK BK438 hb; have NB439_519 := zL BK439 hg; have NB519_439 := zG BK439 hg; replace BK439 := zK BK439 hb; have NB467_519 := zL BK467 hg; have NB519_467 := zG BK467 hg; replace BK467 := zK BK467 hb; have NB471_519 := zL BK471 hg; have NB519_471 := zG BK471 hg; replace BK471 := zK BK471 hb; have NB497_519 := zL BK497 hg; have NB519_497 := zG BK497 hg; replace BK497 := zK BK497 hb; clear hb hbox hg; have hnb135 := NB519_437.out; have hnc135 := NB437_519.out; have hnb136 := NB519_438.out; have hnc136 := NB438_519.out; have hnb137 := NB519_439.out; have hnc137 := NB439_519.out; have hnb138 := NB519_467.out; have hnc138 := NB467_519.out; have hnb139 := NB519_471.out; have hnc139 := NB471_519.out; have hnb140 := NB519_497.out; have hnc140 := NB497_519.out; obtain ⟨hcz141_0, hcz141_1, hcz141_2, hcz141_3, hcz141_4, hcz141_5, hcz141_6, hfz141_0, hfz141_1, hfz141_2, hfz141_3, hfz141_4, hfz141_5, hfz141_6⟩ := cells_7 BK519.out; have hnb142 := NB467_437.out; have hnc142 := NB437_467.out; have hnb143 := NB467_438.out; have hnc143 := NB438_467.out; have hnb144 := NB467_439.out; have hnc144 := NB439_467.out; have hnb145 := NB467_471.out; have hnc145 := NB471_467.out; have hnb146 := NB467_497.out; have hnc146 := NB497_467.out; obtain ⟨hcz147_0, hcz147_1, hcz147_2, hfz147_0, hfz147_1, hfz147_2⟩ := cells_3 BK467.out) | ((with_reducible refine gate_callee (f := 15) rfl ?_); refine goesL_ (some 87) rfl rfl Try.func15 (by kernel_rfl) rfl #[.agg #[.int .i64 ((rd_T25 y515 x81_4).f0), .string ((rd_T25 y515 x81_4).f1), .int .i64 ((rd_T25 y515 x81_4).f2), .int .i64 ((rd_T25 y515 x81_4).f3), .string ((rd_T25 y515 x81_4).f4), .slice A518_5 ((rd_T25 y515 x81_4).f5).length c518_5, .slice A518_6 ((rd_T25 y515 x81_4).f6).length c518_6], .agg #[.int .i64 t462, .int .i64 t463, .slice Ao35 t464.length co35]] rfl yb ?_; (with_reducible refine (pred_Eval.calls k4 ((rd_T25 y515 x81_4).f0) ((rd_T25 y515 x81_4).f1) ((rd_T25 y515 x81_4).f2) ((rd_T25 y515 x81_4).f3) ((rd_T25 y515 x81_4).f4) _ _ ((rd_T25 y515 x81_4).f5) _ _ ((rd_T25 y515 x81_4).f6) t462 t463 _ _ t464 false _ ?side1 ?side2 ?side3 ?side4 ?side5 ?side6 A117.out).mono ?_); (case side1 => repeat (first | exact ((Kd.V_reads' (by (with_reducible repeat (first | apply Kd.V_alloc | apply Kd.V_drewN | apply Kd.V_drew)); exact (Kd.V_mono (zgV (Kd.V_mono HL518_5.out (fun k_ hk => (⟨hk, hk.2⟩ : _ ∧ k_ ≠ gb519)))) (fun _ h_ => h_.1)))).2.2) | (with_reducible refine Kd.C_alloc ?_ _) | (with_reducible refine Kd.C_drewN ?_ _) | (with_reducible refine Kd.C_drew ?_))); (case side2 => first | exact HC518_5.out | exact Kd.V_mono HC518_5.out (fun k_ hk_ => by grind)); (case side3 => repeat (first | exact ((Kd.V_reads' (by (with_reducible repeat (first | apply Kd.V_alloc | apply Kd.V_drewN | apply Kd.V_drew)); exact (Kd.V_mono (zgV (Kd.V_mono HL518_6.out (fun k_ hk => (⟨hk, hk.2⟩ : _ ∧ k_ ≠ gb519)))) (fun _ h_ => h_.1)))).2.2) | (with_reducible refine Kd.C_alloc ?_ _) | (with_reducible refine Kd.C_drewN ?_ _) | (with_reducible refine Kd.C_drew ?_))); (case side4 => first | exact HC518_6.out | exact Kd.V_mono HC518_6.out (fun k_ hk_ => by grind)); (case side5 => refine (Kd.R_reads' (e := 52) (base := w.heap.size) (ok := fun k_ => True) (n := t464.length) (c := co35) ?_).2.2; exact (by (with_reducible repeat (first | apply Kd.R_alloc | apply Kd.R_drewN | apply Kd.R_drew)); exact (Kd.R_mono (zgR (Kd.R_types HO_468002.out BK519.out (by decide))) (fun _ h_ => h_.1)))); (case side6 => exact (Kd.R_reads' HO_468002.out).2.1); rintro e w148 ⟨rfl, hb⟩; refine ⟨_, rfl, ?_⟩; replace HO_79 := zM (Kd.N_below (by (with_reducible repeat (first | apply Kd.N_alloc | apply Kd.N_drewN | apply Kd.N_drew)); exact (Kd.N_mono (zgN (Kd.N_mono HO_79.out (fun k_ hk => (⟨hk, hk.2⟩ : _ ∧ k_ ≠ gb519)))) (fun _ h_ => h_.1))) hb); replace HO_438005 := zM (Kd.V_below (by (with_reducible repeat (first | apply Kd.V_alloc | apply Kd.V_drewN | apply Kd.V_drew)); exact (Kd.V_mono (zgV (Kd.V_mono HO_438005.out (fun k_ hk => (⟨hk, hk.2⟩ : _ ∧ k_ ≠ gb519)))) (fun _ h_ => h_.1))) hb); replace HO_438006 := zM (Kd.V_below (by (with_reducible repeat (first | apply Kd.V_alloc | apply Kd.V_drewN | apply Kd.V_drew)); exact (Kd.V_mono (zgV (Kd.V_mono HO_438006.out (fun k_ hk => (⟨hk, hk.2⟩ : _ ∧ k_ ≠ gb519)))) (fun _ h_ => h_.1))) hb); replace HO_439005 := zM (Kd.V_below (by (with_reducible repeat (first | apply Kd.V_alloc | apply Kd.V_drewN | apply Kd.V_drew)); exact (Kd.V_mono (zgV (Kd.V_mono HO_439005.out (fun k_ hk => (⟨hk, hk.2⟩ : _ ∧ k_ ≠ gb519)))) (fun _ h_ => h_.1))) hb); replace HO_439006 := zM (Kd.V_below (by (with_reducible repeat (first | apply Kd.V_alloc | apply Kd.V_drewN | apply Kd.V_drew)); exact (Kd.V_mono (zgV (Kd.V_mono HO_439006.out (fun k_ hk => (⟨hk, hk.2⟩ : _ ∧ k_ ≠ gb519)))) (fun _ h_ => h_.1))) hb); replace HO_468002 := zM (Kd.R_below (by (with_reducible repeat (first | apply Kd.R_alloc | apply Kd.R_drewN | apply Kd.R_drew)); exact (Kd.R_mono (zgR (Kd.R_types HO_468002.out BK519.out (by decide))) (fun _ h_ => h_.1))) hb); replace HO_472006 := zM (Kd.N_below (by (with_reducible repeat (first | apply Kd.N_alloc | apply Kd.N_drewN | apply Kd.N_drew)); exact (Kd.N_mono (zgN (Kd.N_mono HO_472006.out (fun k_ hk => (⟨hk, hk.2⟩ : _ ∧ k_ ≠ gb519)))) (fun _ h_ => h_.1))) hb); replace HO_498006 := zM (Kd.N_below (by (with_reducible repeat (first | apply Kd.N_alloc | apply Kd.N_drewN | apply Kd.N_drew)); exact (Kd.N_mono (zgN (Kd.N_mono HO_498006.out (fun k_ hk => (⟨hk, hk.2⟩ : _ ∧ k_ ≠ gb519)))) (fun _ h_ => h_.1))) hb); replace BK437 := zM (blk_below (zF BK437.out NB437_519.out) hb); replace BK438 := zM (blk_below (zF BK438.out NB438_519.out) hb); replace BK439 := zM (blk_below (zF BK439.out NB439_519.out) hb); replace BK467 := zM (blk_below (zF BK467.out NB467_519.out) hb); replace BK471 := zM (blk_below (zF BK471.out NB471_519.out) hb); replace BK497 := zM (blk_below (zF BK497.out NB497_519.out) hb); replace HR518_5 := zM (Kd.C_below ((Kd.V_reads' (by (with_reducible repeat (first | apply Kd.V_alloc | apply Kd.V_drewN | apply Kd.V_drew)); exact (Kd.V_mono (zgV (Kd.V_mono HL518_5.out (fun k_ hk => (⟨hk, hk.2⟩ : _ ∧ k_ ≠ gb519)))) (fun _ h_ => h_.1)))).2.2) hb); replace HL518_5 := zM (Kd.V_below (by (with_reducible repeat (first | apply Kd.V_alloc | apply Kd.V_drewN | apply Kd.V_drew)); exact (Kd.V_mono (zgV (Kd.V_mono HL518_5.out (fun k_ hk => (⟨hk, hk.2⟩ : _ ∧ k_ ≠ gb519)))) (fun _ h_ => h_.1))) hb); replace HR518_6 := zM (Kd.C_below ((Kd.V_reads' (by (with_reducible repeat (first | apply Kd.V_alloc | apply Kd.V_drewN | apply Kd.V_drew)); exact (Kd.V_mono (zgV (Kd.V_mono HL518_6.out (fun k_ hk => (⟨hk, hk.2⟩ : _ ∧ k_ ≠ gb519)))) (fun _ h_ => h_.1)))).2.2) hb); replace HL518_6 := zM (Kd.V_below (by (with_reducible repeat (first | apply Kd.V_alloc | apply Kd.V_drewN | apply Kd.V_drew)); exact (Kd.V_mono (zgV (Kd.V_mono HL518_6.out (fun k_ hk => (⟨hk, hk.2⟩ : _ ∧ k_ ≠ gb519)))) (fun _ h_ => h_.1))) hb); replace BK519 := zP7 BK519 hb; replace HB := zM (below_step mZ hb); (try clear hb)))
         go_roundg k4
         case measure => have := HJ10.out; have := HJ103.out; have := HJ105.out; have := HK4.out; omega
         case rel => exact ⟨(x14_4), (wrap64 (x81_4 + 1)), ya, ya, H', ⟨by have := HJ10.out; have := HJ103.out; have := HJ105.out; have := HK4.out; omega⟩, ⟨yN HO_79 (fun _ hk => ⟨hk.1.1, ⟨hk.1.2.1, ⟨hk.1.2.2.1, ⟨hk.1.2.2.2.1, ⟨hk.1.2.2.2.2.1, ⟨hk.1.2.2.2.2.2.1, ⟨hk.1.2.2.2.2.2.2.1, ⟨hk.1.2.2.2.2.2.2.2.1, hk.1.2.2.2.2.2.2.2.2⟩⟩⟩⟩⟩⟩⟩⟩)⟩, ⟨yV HO_438005 (fun _ hk => ⟨hk.1.1, ⟨hk.1.2.1, ⟨hk.1.2.2.1, ⟨hk.1.2.2.2.1, ⟨hk.1.2.2.2.2.1, ⟨hk.1.2.2.2.2.2.1, ⟨hk.1.2.2.2.2.2.2.1, ⟨hk.1.2.2.2.2.2.2.2.1, ⟨hk.1.2.2.2.2.2.2.2.2.1, hk.1.2.2.2.2.2.2.2.2.2⟩⟩⟩⟩⟩⟩⟩⟩⟩)⟩, ⟨yV HO_438006 (fun _ hk => ⟨hk.1.1, ⟨hk.1.2.1, ⟨hk.1.2.2.1, ⟨hk.1.2.2.2.1, ⟨hk.1.2.2.2.2.1, ⟨hk.1.2.2.2.2.2.1, ⟨hk.1.2.2.2.2.2.2.1, ⟨hk.1.2.2.2.2.2.2.2.1, ⟨hk.1.2.2.2.2.2.2.2.2.1, hk.1.2.2.2.2.2.2.2.2.2⟩⟩⟩⟩⟩⟩⟩⟩⟩)⟩, ⟨yV HO_439005 (fun _ hk => ⟨hk.1.1, ⟨hk.1.2.1, ⟨hk.1.2.2.1, ⟨hk.1.2.2.2.1, ⟨hk.1.2.2.2.2.1, ⟨hk.1.2.2.2.2.2.1, ⟨hk.1.2.2.2.2.2.2.1, ⟨hk.1.2.2.2.2.2.2.2.1, ⟨hk.1.2.2.2.2.2.2.2.2.1, hk.1.2.2.2.2.2.2.2.2.2⟩⟩⟩⟩⟩⟩⟩⟩⟩)⟩, ⟨yV HO_439006 (fun _ hk => ⟨hk.1.1, ⟨hk.1.2.1, ⟨hk.1.2.2.1, ⟨hk.1.2.2.2.1, ⟨hk.1.2.2.2.2.1, ⟨hk.1.2.2.2.2.2.1, ⟨hk.1.2.2.2.2.2.2.1, ⟨hk.1.2.2.2.2.2.2.2.1, ⟨hk.1.2.2.2.2.2.2.2.2.1, hk.1.2.2.2.2.2.2.2.2.2⟩⟩⟩⟩⟩⟩⟩⟩⟩)⟩, ⟨mR HO_468002.out⟩, ⟨yN HO_472006 (fun _ hk => ⟨hk.1.1, ⟨hk.1.2.1, ⟨hk.1.2.2.1, ⟨hk.1.2.2.2.1, ⟨hk.1.2.2.2.2.1, ⟨hk.1.2.2.2.2.2.1, ⟨hk.1.2.2.2.2.2.2.1, ⟨hk.1.2.2.2.2.2.2.2.1, hk.1.2.2.2.2.2.2.2.2⟩⟩⟩⟩⟩⟩⟩⟩)⟩, ⟨yN HO_498006 (fun _ hk => ⟨hk.1.1, ⟨hk.1.2.1, ⟨hk.1.2.2.1, ⟨hk.1.2.2.2.1, ⟨hk.1.2.2.2.2.1, ⟨hk.1.2.2.2.2.2.1, ⟨hk.1.2.2.2.2.2.2.1, ⟨hk.1.2.2.2.2.2.2.2.1, hk.1.2.2.2.2.2.2.2.2⟩⟩⟩⟩⟩⟩⟩⟩)⟩, ⟨mK BK437.out⟩, ⟨mK BK438.out⟩, ⟨mK BK439.out⟩, ⟨mK BK467.out⟩, ⟨mK BK471.out⟩, ⟨mK BK497.out⟩, ⟨mZ⟩⟩
        rw [if_neg c116] at H
        exact absurd H (by simp)
       rw [if_neg c115] at H
       exact absurd H (by simp)
      rw [if_neg c114] at H
      have c114b0 : decide (x81_4 < (y515.length : Int)) = false := decide_eq_false c114
      clear c114
      replace H := Option.bind_eq_some_iff.mp H
      obtain ⟨t521, A1490, H⟩ := H
      try dsimp only at H
      have A149 := zM A1490
      clear A1490
      replace H := Option.bind_eq_some_iff.mp H
      obtain ⟨t522, A1500, H⟩ := H
      try dsimp only at H
      have A150 := zM A1500
      clear A1500
      replace H := Option.bind_eq_some_iff.mp H
      obtain ⟨t523, A1510, H⟩ := H
      try dsimp only at H
      have A151 := zM A1510
      clear A1510
      by_cases c152 : x14_4 = 1
      ·rw [if_pos c152] at H
       have c152b0 : (x14_4 == 1) = true := beq_iff_eq.mpr c152
       have c152b1 : (x14_4 != 1) = false := bne_eq_false_iff_eq.mpr c152
       clear c152
       by_cases c153 : t521 = true
       ·subst c153
        rw [if_pos rfl] at H
        by_cases c154 : (t523 == true) = true
        ·rw [if_pos c154] at H
         have c154b0 : (t523 == true) = true := c154
         (try (have c154b1 : decide (t523 = true) = true := by simpa using c154))
         (try (have c154b2 : (t523 == true) = true := by simpa using c154))
         clear c154
         by_cases c155 : t522 = true
         ·subst c155
          rw [if_pos rfl] at H
          exact absurd ((Option.some.inj H).trans hrt_.out) (by decide)
         replace c155 := Bool.eq_false_iff.mpr c155
         subst c155
         rw [if_neg (show ¬ (false = true) by decide)] at H
         replace H := Option.bind_eq_some_iff.mp H
         obtain ⟨t524, A1560, H⟩ := H
         try dsimp only at H
         have A156 := zM A1560
         clear A1560
         by_cases c157 : t524 = true
         ·subst c157
          rw [if_pos rfl] at H
          by_cases c158 : t523 = true
          ·subst c158
           rw [if_pos rfl] at H
           exact absurd ((Option.some.inj H).trans hrt_.out) (by decide)
          replace c158 := Bool.eq_false_iff.mpr c158
          subst c158
          rw [if_neg (show ¬ (false = true) by decide)] at H
          replace H := Option.bind_eq_some_iff.mp H
          obtain ⟨t525, A1590, H⟩ := H
          try dsimp only at H
          have A159 := zM A1590
          clear A1590
          obtain rfl := Option.some.inj H
          have hnb160 := NB467_437.out
          have hnc160 := NB437_467.out
          have hnb161 := NB467_438.out
          have hnc161 := NB438_467.out
          have hnb162 := NB467_439.out
          have hnc162 := NB439_467.out
          have hnb163 := NB467_471.out
          have hnc163 := NB471_467.out
          have hnb164 := NB467_497.out
          have hnc164 := NB497_467.out
          obtain ⟨hcz165_0, hcz165_1, hcz165_2, hfz165_0, hfz165_1, hfz165_2⟩ := cells_3 BK467.out
          go_wp2_with (first | ((with_reducible refine gate_callee (f := 15) rfl ?_); refine goesL_ (some 94) rfl rfl Try.func15 (by kernel_rfl) rfl #[.agg #[.int .i64 4, .string (⟨#[97]⟩ : ByteArray), .int .i64 x3_103, .int .i64 0, .string (⟨#[]⟩ : ByteArray), .slice none 0 0, .slice none 0 0], .agg #[.int .i64 t462, .int .i64 t463, .slice Ao35 t464.length co35]] rfl yb ?_; (refine (pred_Eval.calls k4 4 (⟨#[97]⟩ : ByteArray) x3_103 0 (⟨#[]⟩ : ByteArray) _ _ ([] : List ByteArray) _ _ ([] : List (S25)) t462 t463 _ _ t464 true _ ?side1 ?side2 ?side3 ?side4 ?side5 ?side6 A149.out).mono ?_); (case side1 => exact Kd.C_nil _ _); (case side2 => exact Nat.le_refl _); (case side3 => exact Kd.C_nil _ _); (case side4 => exact Nat.le_refl _); (case side5 => exact zC ((Kd.R_reads' HO_468002.out).2.2)); (case side6 => exact (Kd.R_reads' HO_468002.out).2.1); rintro e w166 ⟨rfl, hb⟩; refine ⟨_, rfl, ?_⟩; replace HO_468002 := zR HO_468002 hb; replace BK467 := zK BK467 hb; replace HB := zM (below_step mZ hb); (try clear hb); obtain ⟨hcz167_0, hcz167_1, hcz167_2, hfz167_0, hfz167_1, hfz167_2⟩ := cells_3 BK467.out) | ((with_reducible refine gate_callee (f := 15) rfl ?_); refine goesL_ (some 98) rfl rfl Try.func15 (by kernel_rfl) rfl #[.agg #[.int .i64 5, .string (⟨#[97]⟩ : ByteArray), .int .i64 x3_103, .int .i64 0, .string (⟨#[]⟩ : ByteArray), .slice none 0 0, .slice none 0 0], .agg #[.int .i64 t462, .int .i64 t463, .slice Ao35 t464.length co35]] rfl yb ?_; (refine (pred_Eval.calls k4 5 (⟨#[97]⟩ : ByteArray) x3_103 0 (⟨#[]⟩ : ByteArray) _ _ ([] : List ByteArray) _ _ ([] : List (S25)) t462 t463 _ _ t464 false _ ?side1 ?side2 ?side3 ?side4 ?side5 ?side6 A150.out).mono ?_); (case side1 => exact Kd.C_nil _ _); (case side2 => exact Nat.le_refl _); (case side3 => exact Kd.C_nil _ _); (case side4 => exact Nat.le_refl _); (case side5 => exact zC ((Kd.R_reads' HO_468002.out).2.2)); (case side6 => exact (Kd.R_reads' HO_468002.out).2.1); rintro e w168 ⟨rfl, hb⟩; refine ⟨_, rfl, ?_⟩; replace HO_468002 := zR HO_468002 hb; replace BK467 := zK BK467 hb; replace HB := zM (below_step mZ hb); (try clear hb); obtain ⟨hcz169_0, hcz169_1, hcz169_2, hfz169_0, hfz169_1, hfz169_2⟩ := cells_3 BK467.out) | ((with_reducible refine gate_callee (f := 15) rfl ?_); refine goesL_ (some 103) rfl rfl Try.func15 (by kernel_rfl) rfl #[.agg #[.int .i64 4, .string (⟨#[97]⟩ : ByteArray), .int .i64 (wrap64 (x3_103 + 1)), .int .i64 0, .string (⟨#[]⟩ : ByteArray), .slice none 0 0, .slice none 0 0], .agg #[.int .i64 t462, .int .i64 t463, .slice Ao35 t464.length co35]] rfl yb ?_; (refine (pred_Eval.calls k4 4 (⟨#[97]⟩ : ByteArray) (wrap64 (x3_103 + 1)) 0 (⟨#[]⟩ : ByteArray) _ _ ([] : List ByteArray) _ _ ([] : List (S25)) t462 t463 _ _ t464 false _ ?side1 ?side2 ?side3 ?side4 ?side5 ?side6 A151.out).mono ?_); (case side1 => exact Kd.C_nil _ _); (case side2 => exact Nat.le_refl _); (case side3 => exact Kd.C_nil _ _); (case side4 => exact Nat.le_refl _); (case side5 => exact zC ((Kd.R_reads' HO_468002.out).2.2)); (case side6 => exact (Kd.R_reads' HO_468002.out).2.1); rintro e w170 ⟨rfl, hb⟩; refine ⟨_, rfl, ?_⟩; replace HO_468002 := zR HO_468002 hb; replace BK467 := zK BK467 hb; replace HB := zM (below_step mZ hb); (try clear hb); obtain ⟨hcz171_0, hcz171_1, hcz171_2, hfz171_0, hfz171_1, hfz171_2⟩ := cells_3 BK467.out) | (go_at_call 11; (with_reducible refine (columbariumlaw13_known.calls k4  t525 _ A159.out).mono ?_); rintro e w173 ⟨rfl, hb⟩; replace HO_468002 := zR HO_468002 hb; replace BK467 := zK BK467 hb; replace HB := zM (below_step mZ hb); (try clear hb))| (go_at_call 15; (refine (pred_Eval.calls k4 9 (⟨#[97]⟩ : ByteArray) 0 0 (⟨#[]⟩ : ByteArray) _ _ ([] : List ByteArray) _ _ ([] : List (S25)) t462 t463 _ _ t464 true _ ?side1 ?side2 ?side3 ?side4 ?side5 ?side6 A156.out).mono ?_); (case side1 => exact Kd.C_nil _ _); (case side2 => exact Nat.le_refl _); (case side3 => exact Kd.C_nil _ _); (case side4 => exact Nat.le_refl _); (case side5 => exact zC ((Kd.R_reads' HO_468002.out).2.2)); (case side6 => exact (Kd.R_reads' HO_468002.out).2.1); rintro e w172 ⟨rfl, hb⟩; replace HO_468002 := zR HO_468002 hb; replace BK467 := zK BK467 hb; replace HB := zM (below_step mZ hb); (try clear hb)) )
          go_ret
          exact ⟨by first | rfl | (simp [errW_none, errW_some] <;> rfl) | (simp [*, errW_none, errW_some] <;> rfl), mZ⟩
         replace c157 := Bool.eq_false_iff.mpr c157
         subst c157
         rw [if_neg (show ¬ (false = true) by decide)] at H
         replace H := Option.bind_eq_some_iff.mp H
         obtain ⟨t526, A1740, H⟩ := H
         try dsimp only at H
         have A174 := zM A1740
         clear A1740
         obtain rfl := Option.some.inj H
         have hnb175 := NB467_437.out
         have hnc175 := NB437_467.out
         have hnb176 := NB467_438.out
         have hnc176 := NB438_467.out
         have hnb177 := NB467_439.out
         have hnc177 := NB439_467.out
         have hnb178 := NB467_471.out
         have hnc178 := NB471_467.out
         have hnb179 := NB467_497.out
         have hnc179 := NB497_467.out
         obtain ⟨hcz180_0, hcz180_1, hcz180_2, hfz180_0, hfz180_1, hfz180_2⟩ := cells_3 BK467.out
         go_wp2_with (first | ((with_reducible refine gate_callee (f := 15) rfl ?_); refine goesL_ (some 94) rfl rfl Try.func15 (by kernel_rfl) rfl #[.agg #[.int .i64 4, .string (⟨#[97]⟩ : ByteArray), .int .i64 x3_103, .int .i64 0, .string (⟨#[]⟩ : ByteArray), .slice none 0 0, .slice none 0 0], .agg #[.int .i64 t462, .int .i64 t463, .slice Ao35 t464.length co35]] rfl yb ?_; (refine (pred_Eval.calls k4 4 (⟨#[97]⟩ : ByteArray) x3_103 0 (⟨#[]⟩ : ByteArray) _ _ ([] : List ByteArray) _ _ ([] : List (S25)) t462 t463 _ _ t464 true _ ?side1 ?side2 ?side3 ?side4 ?side5 ?side6 A149.out).mono ?_); (case side1 => exact Kd.C_nil _ _); (case side2 => exact Nat.le_refl _); (case side3 => exact Kd.C_nil _ _); (case side4 => exact Nat.le_refl _); (case side5 => exact zC ((Kd.R_reads' HO_468002.out).2.2)); (case side6 => exact (Kd.R_reads' HO_468002.out).2.1); rintro e w181 ⟨rfl, hb⟩; refine ⟨_, rfl, ?_⟩; replace HO_468002 := zR HO_468002 hb; replace BK467 := zK BK467 hb; replace HB := zM (below_step mZ hb); (try clear hb); obtain ⟨hcz182_0, hcz182_1, hcz182_2, hfz182_0, hfz182_1, hfz182_2⟩ := cells_3 BK467.out) | ((with_reducible refine gate_callee (f := 15) rfl ?_); refine goesL_ (some 98) rfl rfl Try.func15 (by kernel_rfl) rfl #[.agg #[.int .i64 5, .string (⟨#[97]⟩ : ByteArray), .int .i64 x3_103, .int .i64 0, .string (⟨#[]⟩ : ByteArray), .slice none 0 0, .slice none 0 0], .agg #[.int .i64 t462, .int .i64 t463, .slice Ao35 t464.length co35]] rfl yb ?_; (refine (pred_Eval.calls k4 5 (⟨#[97]⟩ : ByteArray) x3_103 0 (⟨#[]⟩ : ByteArray) _ _ ([] : List ByteArray) _ _ ([] : List (S25)) t462 t463 _ _ t464 false _ ?side1 ?side2 ?side3 ?side4 ?side5 ?side6 A150.out).mono ?_); (case side1 => exact Kd.C_nil _ _); (case side2 => exact Nat.le_refl _); (case side3 => exact Kd.C_nil _ _); (case side4 => exact Nat.le_refl _); (case side5 => exact zC ((Kd.R_reads' HO_468002.out).2.2)); (case side6 => exact (Kd.R_reads' HO_468002.out).2.1); rintro e w183 ⟨rfl, hb⟩; refine ⟨_, rfl, ?_⟩; replace HO_468002 := zR HO_468002 hb; replace BK467 := zK BK467 hb; replace HB := zM (below_step mZ hb); (try clear hb); obtain ⟨hcz184_0, hcz184_1, hcz184_2, hfz184_0, hfz184_1, hfz184_2⟩ := cells_3 BK467.out) | ((with_reducible refine gate_callee (f := 15) rfl ?_); refine goesL_ (some 103) rfl rfl Try.func15 (by kernel_rfl) rfl #[.agg #[.int .i64 4, .string (⟨#[97]⟩ : ByteArray), .int .i64 (wrap64 (x3_103 + 1)), .int .i64 0, .string (⟨#[]⟩ : ByteArray), .slice none 0 0, .slice none 0 0], .agg #[.int .i64 t462, .int .i64 t463, .slice Ao35 t464.length co35]] rfl yb ?_; (refine (pred_Eval.calls k4 4 (⟨#[97]⟩ : ByteArray) (wrap64 (x3_103 + 1)) 0 (⟨#[]⟩ : ByteArray) _ _ ([] : List ByteArray) _ _ ([] : List (S25)) t462 t463 _ _ t464 t523 _ ?side1 ?side2 ?side3 ?side4 ?side5 ?side6 A151.out).mono ?_); (case side1 => exact Kd.C_nil _ _); (case side2 => exact Nat.le_refl _); (case side3 => exact Kd.C_nil _ _); (case side4 => exact Nat.le_refl _); (case side5 => exact zC ((Kd.R_reads' HO_468002.out).2.2)); (case side6 => exact (Kd.R_reads' HO_468002.out).2.1); rintro e w185 ⟨rfl, hb⟩; refine ⟨_, rfl, ?_⟩; replace HO_468002 := zR HO_468002 hb; replace BK467 := zK BK467 hb; replace HB := zM (below_step mZ hb); (try clear hb); obtain ⟨hcz186_0, hcz186_1, hcz186_2, hfz186_0, hfz186_1, hfz186_2⟩ := cells_3 BK467.out) | (go_at_call 11; (with_reducible refine (columbariumlaw13_known.calls k4  t526 _ A174.out).mono ?_); rintro e w188 ⟨rfl, hb⟩; replace HO_468002 := zR HO_468002 hb; replace BK467 := zK BK467 hb; replace HB := zM (below_step mZ hb); (try clear hb))| (go_at_call 15; (refine (pred_Eval.calls k4 9 (⟨#[97]⟩ : ByteArray) 0 0 (⟨#[]⟩ : ByteArray) _ _ ([] : List ByteArray) _ _ ([] : List (S25)) t462 t463 _ _ t464 false _ ?side1 ?side2 ?side3 ?side4 ?side5 ?side6 A156.out).mono ?_); (case side1 => exact Kd.C_nil _ _); (case side2 => exact Nat.le_refl _); (case side3 => exact Kd.C_nil _ _); (case side4 => exact Nat.le_refl _); (case side5 => exact zC ((Kd.R_reads' HO_468002.out).2.2)); (case side6 => exact (Kd.R_reads' HO_468002.out).2.1); rintro e w187 ⟨rfl, hb⟩; replace HO_468002 := zR HO_468002 hb; replace BK467 := zK BK467 hb; replace HB := zM (below_step mZ hb); (try clear hb)) )
         go_ret
         exact ⟨by first | rfl | (simp [errW_none, errW_some] <;> rfl) | (simp [*, errW_none, errW_some] <;> rfl), mZ⟩
        rw [if_neg c154] at H
        have c154b0 : (t523 == true) = false := by simpa using c154
        (try (have c154b1 : decide (t523 = true) = false := by simpa using c154))
        (try (have c154b2 : (t523 == true) = false := by simpa using c154))
        (try (have c154b3 : ¬ (t523 = true) := by simpa using c154))
        clear c154
        exact absurd ((Option.some.inj H).trans hrt_.out) (by decide)
       replace c153 := Bool.eq_false_iff.mpr c153
       subst c153
       rw [if_neg (show ¬ (false = true) by decide)] at H
       by_cases c189 : (t523 == t522) = true
       ·rw [if_pos c189] at H
        have c189b0 : (t523 == t522) = true := c189
        (try (have c189b1 : decide (t523 = t522) = true := by simpa using c189))
        (try (have c189b2 : (t523 == t522) = true := by simpa using c189))
        clear c189
        replace H := Option.bind_eq_some_iff.mp H
        obtain ⟨t527, A1900, H⟩ := H
        try dsimp only at H
        have A190 := zM A1900
        clear A1900
        by_cases c191 : t527 = true
        ·subst c191
         rw [if_pos rfl] at H
         by_cases c192 : t523 = true
         ·subst c192
          rw [if_pos rfl] at H
          exact absurd ((Option.some.inj H).trans hrt_.out) (by decide)
         replace c192 := Bool.eq_false_iff.mpr c192
         subst c192
         rw [if_neg (show ¬ (false = true) by decide)] at H
         replace H := Option.bind_eq_some_iff.mp H
         obtain ⟨t528, A1930, H⟩ := H
         try dsimp only at H
         have A193 := zM A1930
         clear A1930
         obtain rfl := Option.some.inj H
         have hnb194 := NB467_437.out
         have hnc194 := NB437_467.out
         have hnb195 := NB467_438.out
         have hnc195 := NB438_467.out
         have hnb196 := NB467_439.out
         have hnc196 := NB439_467.out
         have hnb197 := NB467_471.out
         have hnc197 := NB471_467.out
         have hnb198 := NB467_497.out
         have hnc198 := NB497_467.out
         obtain ⟨hcz199_0, hcz199_1, hcz199_2, hfz199_0, hfz199_1, hfz199_2⟩ := cells_3 BK467.out
         go_wp2_with (first | ((with_reducible refine gate_callee (f := 15) rfl ?_); refine goesL_ (some 94) rfl rfl Try.func15 (by kernel_rfl) rfl #[.agg #[.int .i64 4, .string (⟨#[97]⟩ : ByteArray), .int .i64 x3_103, .int .i64 0, .string (⟨#[]⟩ : ByteArray), .slice none 0 0, .slice none 0 0], .agg #[.int .i64 t462, .int .i64 t463, .slice Ao35 t464.length co35]] rfl yb ?_; (refine (pred_Eval.calls k4 4 (⟨#[97]⟩ : ByteArray) x3_103 0 (⟨#[]⟩ : ByteArray) _ _ ([] : List ByteArray) _ _ ([] : List (S25)) t462 t463 _ _ t464 false _ ?side1 ?side2 ?side3 ?side4 ?side5 ?side6 A149.out).mono ?_); (case side1 => exact Kd.C_nil _ _); (case side2 => exact Nat.le_refl _); (case side3 => exact Kd.C_nil _ _); (case side4 => exact Nat.le_refl _); (case side5 => exact zC ((Kd.R_reads' HO_468002.out).2.2)); (case side6 => exact (Kd.R_reads' HO_468002.out).2.1); rintro e w200 ⟨rfl, hb⟩; refine ⟨_, rfl, ?_⟩; replace HO_468002 := zR HO_468002 hb; replace BK467 := zK BK467 hb; replace HB := zM (below_step mZ hb); (try clear hb); obtain ⟨hcz201_0, hcz201_1, hcz201_2, hfz201_0, hfz201_1, hfz201_2⟩ := cells_3 BK467.out) | ((with_reducible refine gate_callee (f := 15) rfl ?_); refine goesL_ (some 98) rfl rfl Try.func15 (by kernel_rfl) rfl #[.agg #[.int .i64 5, .string (⟨#[97]⟩ : ByteArray), .int .i64 x3_103, .int .i64 0, .string (⟨#[]⟩ : ByteArray), .slice none 0 0, .slice none 0 0], .agg #[.int .i64 t462, .int .i64 t463, .slice Ao35 t464.length co35]] rfl yb ?_; (refine (pred_Eval.calls k4 5 (⟨#[97]⟩ : ByteArray) x3_103 0 (⟨#[]⟩ : ByteArray) _ _ ([] : List ByteArray) _ _ ([] : List (S25)) t462 t463 _ _ t464 t522 _ ?side1 ?side2 ?side3 ?side4 ?side5 ?side6 A150.out).mono ?_); (case side1 => exact Kd.C_nil _ _); (case side2 => exact Nat.le_refl _); (case side3 => exact Kd.C_nil _ _); (case side4 => exact Nat.le_refl _); (case side5 => exact zC ((Kd.R_reads' HO_468002.out).2.2)); (case side6 => exact (Kd.R_reads' HO_468002.out).2.1); rintro e w202 ⟨rfl, hb⟩; refine ⟨_, rfl, ?_⟩; replace HO_468002 := zR HO_468002 hb; replace BK467 := zK BK467 hb; replace HB := zM (below_step mZ hb); (try clear hb); obtain ⟨hcz203_0, hcz203_1, hcz203_2, hfz203_0, hfz203_1, hfz203_2⟩ := cells_3 BK467.out) | ((with_reducible refine gate_callee (f := 15) rfl ?_); refine goesL_ (some 103) rfl rfl Try.func15 (by kernel_rfl) rfl #[.agg #[.int .i64 4, .string (⟨#[97]⟩ : ByteArray), .int .i64 (wrap64 (x3_103 + 1)), .int .i64 0, .string (⟨#[]⟩ : ByteArray), .slice none 0 0, .slice none 0 0], .agg #[.int .i64 t462, .int .i64 t463, .slice Ao35 t464.length co35]] rfl yb ?_; (refine (pred_Eval.calls k4 4 (⟨#[97]⟩ : ByteArray) (wrap64 (x3_103 + 1)) 0 (⟨#[]⟩ : ByteArray) _ _ ([] : List ByteArray) _ _ ([] : List (S25)) t462 t463 _ _ t464 false _ ?side1 ?side2 ?side3 ?side4 ?side5 ?side6 A151.out).mono ?_); (case side1 => exact Kd.C_nil _ _); (case side2 => exact Nat.le_refl _); (case side3 => exact Kd.C_nil _ _); (case side4 => exact Nat.le_refl _); (case side5 => exact zC ((Kd.R_reads' HO_468002.out).2.2)); (case side6 => exact (Kd.R_reads' HO_468002.out).2.1); rintro e w204 ⟨rfl, hb⟩; refine ⟨_, rfl, ?_⟩; replace HO_468002 := zR HO_468002 hb; replace BK467 := zK BK467 hb; replace HB := zM (below_step mZ hb); (try clear hb); obtain ⟨hcz205_0, hcz205_1, hcz205_2, hfz205_0, hfz205_1, hfz205_2⟩ := cells_3 BK467.out) | (go_at_call 11; (with_reducible refine (columbariumlaw13_known.calls k4  t528 _ A193.out).mono ?_); rintro e w207 ⟨rfl, hb⟩; replace HO_468002 := zR HO_468002 hb; replace BK467 := zK BK467 hb; replace HB := zM (below_step mZ hb); (try clear hb))| (go_at_call 15; (refine (pred_Eval.calls k4 9 (⟨#[97]⟩ : ByteArray) 0 0 (⟨#[]⟩ : ByteArray) _ _ ([] : List ByteArray) _ _ ([] : List (S25)) t462 t463 _ _ t464 true _ ?side1 ?side2 ?side3 ?side4 ?side5 ?side6 A190.out).mono ?_); (case side1 => exact Kd.C_nil _ _); (case side2 => exact Nat.le_refl _); (case side3 => exact Kd.C_nil _ _); (case side4 => exact Nat.le_refl _); (case side5 => exact zC ((Kd.R_reads' HO_468002.out).2.2)); (case side6 => exact (Kd.R_reads' HO_468002.out).2.1); rintro e w206 ⟨rfl, hb⟩; replace HO_468002 := zR HO_468002 hb; replace BK467 := zK BK467 hb; replace HB := zM (below_step mZ hb); (try clear hb)) )
         go_ret
         exact ⟨by first | rfl | (simp [errW_none, errW_some] <;> rfl) | (simp [*, errW_none, errW_some] <;> rfl), mZ⟩
        replace c191 := Bool.eq_false_iff.mpr c191
        subst c191
        rw [if_neg (show ¬ (false = true) by decide)] at H
        replace H := Option.bind_eq_some_iff.mp H
        obtain ⟨t529, A2080, H⟩ := H
        try dsimp only at H
        have A208 := zM A2080
        clear A2080
        obtain rfl := Option.some.inj H
        have hnb209 := NB467_437.out
        have hnc209 := NB437_467.out
        have hnb210 := NB467_438.out
        have hnc210 := NB438_467.out
        have hnb211 := NB467_439.out
        have hnc211 := NB439_467.out
        have hnb212 := NB467_471.out
        have hnc212 := NB471_467.out
        have hnb213 := NB467_497.out
        have hnc213 := NB497_467.out
        obtain ⟨hcz214_0, hcz214_1, hcz214_2, hfz214_0, hfz214_1, hfz214_2⟩ := cells_3 BK467.out
        go_wp2_with (first | ((with_reducible refine gate_callee (f := 15) rfl ?_); refine goesL_ (some 94) rfl rfl Try.func15 (by kernel_rfl) rfl #[.agg #[.int .i64 4, .string (⟨#[97]⟩ : ByteArray), .int .i64 x3_103, .int .i64 0, .string (⟨#[]⟩ : ByteArray), .slice none 0 0, .slice none 0 0], .agg #[.int .i64 t462, .int .i64 t463, .slice Ao35 t464.length co35]] rfl yb ?_; (refine (pred_Eval.calls k4 4 (⟨#[97]⟩ : ByteArray) x3_103 0 (⟨#[]⟩ : ByteArray) _ _ ([] : List ByteArray) _ _ ([] : List (S25)) t462 t463 _ _ t464 false _ ?side1 ?side2 ?side3 ?side4 ?side5 ?side6 A149.out).mono ?_); (case side1 => exact Kd.C_nil _ _); (case side2 => exact Nat.le_refl _); (case side3 => exact Kd.C_nil _ _); (case side4 => exact Nat.le_refl _); (case side5 => exact zC ((Kd.R_reads' HO_468002.out).2.2)); (case side6 => exact (Kd.R_reads' HO_468002.out).2.1); rintro e w215 ⟨rfl, hb⟩; refine ⟨_, rfl, ?_⟩; replace HO_468002 := zR HO_468002 hb; replace BK467 := zK BK467 hb; replace HB := zM (below_step mZ hb); (try clear hb); obtain ⟨hcz216_0, hcz216_1, hcz216_2, hfz216_0, hfz216_1, hfz216_2⟩ := cells_3 BK467.out) | ((with_reducible refine gate_callee (f := 15) rfl ?_); refine goesL_ (some 98) rfl rfl Try.func15 (by kernel_rfl) rfl #[.agg #[.int .i64 5, .string (⟨#[97]⟩ : ByteArray), .int .i64 x3_103, .int .i64 0, .string (⟨#[]⟩ : ByteArray), .slice none 0 0, .slice none 0 0], .agg #[.int .i64 t462, .int .i64 t463, .slice Ao35 t464.length co35]] rfl yb ?_; (refine (pred_Eval.calls k4 5 (⟨#[97]⟩ : ByteArray) x3_103 0 (⟨#[]⟩ : ByteArray) _ _ ([] : List ByteArray) _ _ ([] : List (S25)) t462 t463 _ _ t464 t522 _ ?side1 ?side2 ?side3 ?side4 ?side5 ?side6 A150.out).mono ?_); (case side1 => exact Kd.C_nil _ _); (case side2 => exact Nat.le_refl _); (case side3 => exact Kd.C_nil _ _); (case side4 => exact Nat.le_refl _); (case side5 => exact zC ((Kd.R_reads' HO_468002.out).2.2)); (case side6 => exact (Kd.R_reads' HO_468002.out).2.1); rintro e w217 ⟨rfl, hb⟩; refine ⟨_, rfl, ?_⟩; replace HO_468002 := zR HO_468002 hb; replace BK467 := zK BK467 hb; replace HB := zM (below_step mZ hb); (try clear hb); obtain ⟨hcz218_0, hcz218_1, hcz218_2, hfz218_0, hfz218_1, hfz218_2⟩ := cells_3 BK467.out) | ((with_reducible refine gate_callee (f := 15) rfl ?_); refine goesL_ (some 103) rfl rfl Try.func15 (by kernel_rfl) rfl #[.agg #[.int .i64 4, .string (⟨#[97]⟩ : ByteArray), .int .i64 (wrap64 (x3_103 + 1)), .int .i64 0, .string (⟨#[]⟩ : ByteArray), .slice none 0 0, .slice none 0 0], .agg #[.int .i64 t462, .int .i64 t463, .slice Ao35 t464.length co35]] rfl yb ?_; (refine (pred_Eval.calls k4 4 (⟨#[97]⟩ : ByteArray) (wrap64 (x3_103 + 1)) 0 (⟨#[]⟩ : ByteArray) _ _ ([] : List ByteArray) _ _ ([] : List (S25)) t462 t463 _ _ t464 t523 _ ?side1 ?side2 ?side3 ?side4 ?side5 ?side6 A151.out).mono ?_); (case side1 => exact Kd.C_nil _ _); (case side2 => exact Nat.le_refl _); (case side3 => exact Kd.C_nil _ _); (case side4 => exact Nat.le_refl _); (case side5 => exact zC ((Kd.R_reads' HO_468002.out).2.2)); (case side6 => exact (Kd.R_reads' HO_468002.out).2.1); rintro e w219 ⟨rfl, hb⟩; refine ⟨_, rfl, ?_⟩; replace HO_468002 := zR HO_468002 hb; replace BK467 := zK BK467 hb; replace HB := zM (below_step mZ hb); (try clear hb); obtain ⟨hcz220_0, hcz220_1, hcz220_2, hfz220_0, hfz220_1, hfz220_2⟩ := cells_3 BK467.out) | (go_at_call 11; (with_reducible refine (columbariumlaw13_known.calls k4  t529 _ A208.out).mono ?_); rintro e w222 ⟨rfl, hb⟩; replace HO_468002 := zR HO_468002 hb; replace BK467 := zK BK467 hb; replace HB := zM (below_step mZ hb); (try clear hb))| (go_at_call 15; (refine (pred_Eval.calls k4 9 (⟨#[97]⟩ : ByteArray) 0 0 (⟨#[]⟩ : ByteArray) _ _ ([] : List ByteArray) _ _ ([] : List (S25)) t462 t463 _ _ t464 false _ ?side1 ?side2 ?side3 ?side4 ?side5 ?side6 A190.out).mono ?_); (case side1 => exact Kd.C_nil _ _); (case side2 => exact Nat.le_refl _); (case side3 => exact Kd.C_nil _ _); (case side4 => exact Nat.le_refl _); (case side5 => exact zC ((Kd.R_reads' HO_468002.out).2.2)); (case side6 => exact (Kd.R_reads' HO_468002.out).2.1); rintro e w221 ⟨rfl, hb⟩; replace HO_468002 := zR HO_468002 hb; replace BK467 := zK BK467 hb; replace HB := zM (below_step mZ hb); (try clear hb)) )
        go_ret
        exact ⟨by first | rfl | (simp [errW_none, errW_some] <;> rfl) | (simp [*, errW_none, errW_some] <;> rfl), mZ⟩
       rw [if_neg c189] at H
       have c189b0 : (t523 == t522) = false := by simpa using c189
       (try (have c189b1 : decide (t523 = t522) = false := by simpa using c189))
       (try (have c189b2 : (t523 == t522) = false := by simpa using c189))
       (try (have c189b3 : ¬ (t523 = t522) := by simpa using c189))
       clear c189
       exact absurd ((Option.some.inj H).trans hrt_.out) (by decide)
      rw [if_neg c152] at H
      have c152b0 : (x14_4 == 1) = false := beq_eq_false_iff_ne.mpr c152
      have c152b1 : (x14_4 != 1) = true := bne_iff_ne.mpr c152
      exact absurd ((Option.some.inj H).trans hrt_.out) (by decide)
end Go.Proofs.Ytalpcnomfebdiaa.QPredPairs
