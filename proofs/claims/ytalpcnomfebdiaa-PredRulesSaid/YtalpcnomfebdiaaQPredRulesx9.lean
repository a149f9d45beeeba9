-- Written by a program of this session (wip/myprint.py): the machine's side of a law
import Derived.Test.YtalpcnomfebdiaaQPredRulesx0
import Derived.Test.YtalpcnomfebdiaaQPredRulesx5
import Derived.Test.YtalpcnomfebdiaaQPredRulesx7
import Derived.Test.YtalpcnomfebdiaaQPredRulesx8
namespace Go.Proofs.Ytalpcnomfebdiaa.QPredRules
open Go.RowKit Go.Proofs.YtalpcnomfebdiaaW.PrintWords Go.Proofs.YtalpcnomfebdiaaW.PrintLast Go.Proofs.YtalpcnomfebdiaaW.PrintMore
attribute [local go_sem] max2_int min2_int max_two min_two max_three min_three max_four min_four   -- for this text's walks alone
set_option linter.unusedVariables false
set_option linter.unusedSimpArgs false

/-! ### pred_Normal: function 10 -/
def pred_Normal.f (k : Nat) (a0_0 : Int) (a0_1 : ByteArray) (a0_2 : Int) (a0_3 : Int) (a0_4 : ByteArray) (l0_5 : List ByteArray) (l0_6 : List (S25)) : Option (Int × ByteArray × Int × Int × ByteArray × List ByteArray × (List (S25))) := (pred_Right.f k a0_0 a0_1 a0_2 a0_3 a0_4 l0_5 l0_6).bind fun t255 => (if t255 = true then ((pred_normal.f k a0_0 a0_1 a0_2 a0_3 a0_4 l0_5 l0_6 false).bind fun bt256 => (some (bt256.1, bt256.2.1, bt256.2.2.1, bt256.2.2.2.1, bt256.2.2.2.2.1, bt256.2.2.2.2.2.1, bt256.2.2.2.2.2.2))) else ((pred_Copy.f k a0_0 a0_1 a0_2 a0_3 a0_4 l0_5 l0_6).bind fun bt267 => (some (bt267.1, bt267.2.1, bt267.2.2.1, bt267.2.2.2.1, bt267.2.2.2.2.1, bt267.2.2.2.2.2.1, bt267.2.2.2.2.2.2))))
theorem pred_Normal.mono : ∀ a0 a1 a2 a3 a4 a5 a6 k, LeO (pred_Normal.f k a0 a1 a2 a3 a4 a5 a6) (pred_Normal.f (k + 1) a0 a1 a2 a3 a4 a5 a6) := by
 intro a0 a1 a2 a3 a4 a5 a6 k
 unfold pred_Normal.f
 repeat' first
   | (with_reducible exact pred_Copy.mono _ _ _ _ _ _ _ _)
   | (with_reducible exact pred_Right.mono _ _ _ _ _ _ _ _)
   | (with_reducible exact pred_normal.mono _ _ _ _ _ _ _ _ _)
   | (with_reducible exact LeO.refl _)
   | (with_reducible exact LeO.none _)
   | (with_reducible refine LeO.ite ?_ ?_)
   | (with_reducible refine LeO.bind ?_ (fun _ => ?_))
   | exact pred_Copy.mono _ _ _ _ _ _ _ _
   | exact pred_Right.mono _ _ _ _ _ _ _ _
   | exact pred_normal.mono _ _ _ _ _ _ _ _ _
   | exact LeO.none _
   | refine LeO.ite ?_ ?_
   | refine LeO.bind ?_ (fun _ => ?_)
set_option maxHeartbeats 8000000 in
set_option maxRecDepth 100000 in
theorem pred_Normal.calls (k : Nat) (a0_0 : Int) (a0_1 : ByteArray) (a0_2 : Int) (a0_3 : Int) (a0_4 : ByteArray) (A0_5 : Option Addr) (c0_5 : Nat) (l0_5 : List ByteArray) (A0_6 : Option Addr) (c0_6 : Nat) (l0_6 : List (S25)) (r1 : Int) (r2 : ByteArray) (r3 : Int) (r4 : Int) (r5 : ByteArray) (r6 : List ByteArray) (r7 : List (S25)) (w : World) (hr0_5 : Kd.C Kd.string w A0_5 l0_5.length l0_5) (hc0_5 : l0_5.length ≤ c0_5) (hr0_6 : Kd.C k25 w A0_6 l0_6.length l0_6) (hc0_6 : l0_6.length ≤ c0_6) (h : pred_Normal.f k a0_0 a0_1 a0_2 a0_3 a0_4 l0_5 l0_6 = some (r1, r2, r3, r4, r5, r6, r7)) :
  Calls Try.prog 10 #[.agg #[.int .i64 a0_0, .string a0_1, .int .i64 a0_2, .int .i64 a0_3, .string a0_4, .slice A0_5 l0_5.length c0_5, .slice A0_6 l0_6.length c0_6]] w fun e w' => ∃ v5_ v6_ : Value, e = .returned (.agg #[.int .i64 r1, .string r2, .int .i64 r3, .int .i64 r4, .string r5, v5_, v6_]) ∧ Kd.V Kd.string 9 w' w.heap.size (fun k_ => (w.heap.size ≤ k_)) v5_ r6 ∧ Kd.V k25 25 w' w.heap.size (fun k_ => (w.heap.size ≤ k_)) v6_ r7 ∧ Below w.heap.size w w' := by
 have hu25 := Try.underlying25
 have HR0_5 := zM hr0_5
 have HC0_5 := zM hc0_5
 clear hr0_5 hc0_5
 have HR0_6 := zM hr0_6
 have HC0_6 := zM hc0_6
 clear hr0_6 hc0_6
 have HB := zM (Below.refl w.heap.size w)
 have H : ((pred_Right.f k a0_0 a0_1 a0_2 a0_3 a0_4 l0_5 l0_6).bind fun t255 => (if t255 = true then ((pred_normal.f k a0_0 a0_1 a0_2 a0_3 a0_4 l0_5 l0_6 false).bind fun bt256 => (some (bt256.1, bt256.2.1, bt256.2.2.1, bt256.2.2.2.1, bt256.2.2.2.2.1, bt256.2.2.2.2.2.1, bt256.2.2.2.2.2.2))) else ((pred_Copy.f k a0_0 a0_1 a0_2 a0_3 a0_4 l0_5 l0_6).bind fun bt267 => (some (bt267.1, bt267.2.1, bt267.2.2.1, bt267.2.2.2.1, bt267.2.2.2.2.1, bt267.2.2.2.2.2.1, bt267.2.2.2.2.2.2))))) = some (r1, r2, r3, r4, r5, r6, r7) := h
 clear h
 replace H := Option.bind_eq_some_iff.mp H
 obtain ⟨t255, A20, H⟩ := H
 try dsimp only at H
 have A2 := zM A20
 clear A20
 by_cases c3 : t255 = true
 ·subst c3
  rw [if_pos rfl] at H
  replace H := Option.bind_eq_some_iff.mp H
  obtain ⟨⟨t256, t257, t258, t259, t260, t261, t264⟩, A40, H⟩ := H
  try dsimp only at H
  have A4 := zM A40
  clear A40
  simp only [Option.some.injEq, Prod.mk.injEq] at H
  obtain ⟨rfl, rfl, rfl, rfl, rfl, rfl, rfl⟩ := H
  go_enter Try.func10, Try.ntmps10
  go_wp2_with (first | ((with_reducible refine gate_dst (N := 1) rfl ?_); refine box_event ?hg (N := 1) ?hd (cs := #[.int .i64 a0_0, .string a0_1, .int .i64 a0_2, .int .i64 a0_3, .string a0_4, .slice A0_5 l0_5.length c0_5, .slice A0_6 l0_6.length c0_6]) (t := 25) ?hr ?_; (case hd => rfl); (case hg => rfl); (case hr => first | (go_simp; done) | (go_simp; rfl)); intro gb253 hg w5 hbox hb; have BK253 := zM (hbox); have GW253 := zM ((by rw [hg]; exact (below_size (mB HB.out)) : w.heap.size ≤ gb253)); replace HB := zM (below_step (mB HB.out) hb); have GE253 := GW253; clear hb hbox hg) | ((with_reducible refine gate_dst (N := 2) rfl ?_); refine box_event ?hg (N := 2) ?hd (cs := #[.int .i64 0, .string (⟨#[]⟩ : ByteArray), .int .i64 0, .int .i64 0, .string (⟨#[]⟩ : ByteArray), .slice none 0 0, .slice none 0 0]) (t := 25) ?hr ?_; (case hd => rfl); (case hg => rfl); (case hr => first | (go_simp; done) | (go_simp; rfl)); intro gb254 hg w6 hbox hb; have BK254 := zM (hbox); have GW254 := zM ((by rw [hg]; exact (below_size mZ) : w.heap.size ≤ gb254)); replace HB := zM (below_step mZ hb); have GE254 := GW254; have NB253_254 := zL BK253 hg; have NB254_253 := zG BK253 hg; replace BK253 := zK BK253 hb; clear hb hbox hg; have hnb7 := NB253_254.out; have hnc7 := NB254_253.out; obtain ⟨hcz8_0, hcz8_1, hcz8_2, hcz8_3, hcz8_4, hcz8_5, hcz8_6, hfz8_0, hfz8_1, hfz8_2, hfz8_3, hfz8_4, hfz8_5, hfz8_6⟩ := cells_7 BK253.out) | ((with_reducible refine gate_callee (f := 8) rfl ?_); refine goesL_ (some 4) rfl rfl Try.func8 (by kernel_rfl) rfl #[.agg #[.int .i64 a0_0, .string a0_1, .int .i64 a0_2, .int .i64 a0_3, .string a0_4, .slice A0_5 l0_5.length c0_5, .slice A0_6 l0_6.length c0_6]] rfl yb ?_; (with_reducible refine (pred_Right.calls k a0_0 a0_1 a0_2 a0_3 a0_4 _ _ l0_5 _ _ l0_6 true _ ?side1 ?side2 ?side3 ?side4 A2.out).mono ?_); (case side1 => exact zC (Kd.C_below HR0_5.out HB.out)); (case side2 => first | exact HC0_5.out | exact Kd.V_mono HC0_5.out (fun k_ hk_ => by grind)); (case side3 => exact zC (Kd.C_below HR0_6.out HB.out)); (case side4 => first | exact HC0_6.out | exact Kd.V_mono HC0_6.out (fun k_ hk_ => by grind)); rintro e w9 ⟨rfl, hb⟩; refine ⟨_, rfl, ?_⟩; replace BK253 := zK BK253 hb; replace BK254 := zK BK254 hb; replace HB := zM (below_step mZ hb); (try clear hb); obtain ⟨hcz10_0, hcz10_1, hcz10_2, hcz10_3, hcz10_4, hcz10_5, hcz10_6, hfz10_0, hfz10_1, hfz10_2, hfz10_3, hfz10_4, hfz10_5, hfz10_6⟩ := cells_7 BK253.out) | ((with_reducible refine gate_callee (f := 28) rfl ?_); refine goesL_ (some 9) rfl rfl Try.func28 (by kernel_rfl) rfl #[.agg #[.int .i64 a0_0, .string a0_1, .int .i64 a0_2, .int .i64 a0_3, .string a0_4, .slice A0_5 l0_5.length c0_5, .slice A0_6 l0_6.length c0_6], .bool false] rfl yb ?_; (with_reducible refine (pred_normal.calls k a0_0 a0_1 a0_2 a0_3 a0_4 _ _ l0_5 _ _ l0_6 false t256 t257 t258 t259 t260 t261 t264 _ ?side1 ?side2 ?side3 ?side4 A4.out).mono ?_); (case side1 => exact zC (Kd.C_below HR0_5.out HB.out)); (case side2 => first | exact HC0_5.out | exact Kd.V_mono HC0_5.out (fun k_ hk_ => by grind)); (case side3 => exact zC (Kd.C_below HR0_6.out HB.out)); (case side4 => first | exact HC0_6.out | exact Kd.V_mono HC0_6.out (fun k_ hk_ => by grind)); rintro e w11 ⟨v262, v265, rfl, ho0, ho1, hb⟩; refine ⟨_, rfl, ?_⟩; have HO263 := zM (Kd.V_lower (Kd.V_mono (ok' := fun k_ => (w.heap.size ≤ k_) ∧ k_ ≠ gb253 ∧ k_ ≠ gb254) ho0 (fun k_ hk_ => ⟨(Nat.le_trans (below_size mZ) hk_), (fK BK253 hk_), (fK BK254 hk_)⟩)) (below_size mZ)); have HO266 := zM (Kd.V_lower (Kd.V_mono (ok' := fun k_ => (w.heap.size ≤ k_) ∧ k_ ≠ gb253 ∧ k_ ≠ gb254) ho1 (fun k_ hk_ => ⟨(Nat.le_trans (below_size mZ) hk_), (fK BK253 hk_), (fK BK254 hk_)⟩)) (below_size mZ)); replace BK253 := zK BK253 hb; replace BK254 := zK BK254 hb; replace HB := zM (below_step mZ hb); (try clear hb); (try clear ho0); (try clear ho1); obtain ⟨hcz12_0, hcz12_1, hcz12_2, hcz12_3, hcz12_4, hcz12_5, hcz12_6, hfz12_0, hfz12_1, hfz12_2, hfz12_3, hfz12_4, hfz12_5, hfz12_6⟩ := cells_7 BK254.out; obtain ⟨Ao13, co13, eo13⟩ := Kd.V_slice HO263.out; subst eo13; obtain ⟨Ao14, co14, eo14⟩ := Kd.V_slice HO266.out; subst eo14))
  refine bodyPost_ret (results_cell_row rfl _ _ gb254 25 #[.int .i64 t256, .string t257, .int .i64 t258, .int .i64 t259, .string t260, .slice Ao13 t261.length co13, .slice Ao14 t264.length co14] (0, 0) _ rfl (by (with_reducible repeat (first | refine blk_drewN ?_ _ | refine blk_drew ?_ | refine blk_alloc ?_ _)); apply puts_7; (with_reducible repeat (first | refine blk_drewN ?_ _ | refine blk_drew ?_ | refine blk_alloc ?_ _)); exact BK254.out) Try.underlying25 rfl (by kernel_rfl)) rfl ?_
  exact ⟨_, _, by first | rfl | (simp [errW_none, errW_some] <;> rfl) | (simp [*, errW_none, errW_some] <;> rfl), by (with_reducible repeat (first | apply Kd.V_alloc | apply Kd.V_drewN | apply Kd.V_drew)); exact Kd.V_mono (zgV (Kd.V_mono HO263.out (fun k_ hk => (⟨hk, hk.2.2⟩ : _ ∧ k_ ≠ gb254)))) (fun _ hk => hk.1.1), by (with_reducible repeat (first | apply Kd.V_alloc | apply Kd.V_drewN | apply Kd.V_drew)); exact Kd.V_mono (zgV (Kd.V_mono HO266.out (fun k_ hk => (⟨hk, hk.2.2⟩ : _ ∧ k_ ≠ gb254)))) (fun _ hk => hk.1.1), mZ⟩
 replace c3 := Bool.eq_false_iff.mpr c3
 subst c3
 rw [if_neg (show ¬ (false = true) by decide)] at H
 replace H := Option.bind_eq_some_iff.mp H
 obtain ⟨⟨t267, t268, t269, t270, t271, t272, t275⟩, A150, H⟩ := H
 try dsimp only at H
 have A15 := zM A150
 clear A150
 simp only [Option.some.injEq, Prod.mk.injEq] at H
 obtain ⟨rfl, rfl, rfl, rfl, rfl, rfl, rfl⟩ := H
 go_enter Try.func10, Try.ntmps10
 go_wp2_with (first | ((with_reducible refine gate_dst (N := 1) rfl ?_); refine box_event ?hg (N := 1) ?hd (cs := #[.int .i64 a0_0, .string a0_1, .int .i64 a0_2, .int .i64 a0_3, .string a0_4, .slice A0_5 l0_5.length c0_5, .slice A0_6 l0_6.length c0_6]) (t := 25) ?hr ?_; (case hd => rfl); (case hg => rfl); (case hr => first | (go_simp; done) | (go_simp; rfl)); intro gb253 hg w16 hbox hb; have BK253 := zM (hbox); have GW253 := zM ((by rw [hg]; exact (below_size (mB HB.out)) : w.heap.size ≤ gb253)); replace HB := zM (below_step (mB HB.out) hb); have GE253 := GW253; clear hb hbox hg) | ((with_reducible refine gate_dst (N := 2) rfl ?_); refine box_event ?hg (N := 2) ?hd (cs := #[.int .i64 0, .string (⟨#[]⟩ : ByteArray), .int .i64 0, .int .i64 0, .string (⟨#[]⟩ : ByteArray), .slice none 0 0, .slice none 0 0]) (t := 25) ?hr ?_; (case hd => rfl); (case hg => rfl); (case hr => first | (go_simp; done) | (go_simp; rfl)); intro gb254 hg w17 hbox hb; have BK254 := zM (hbox); have GW254 := zM ((by rw [hg]; exact (below_size mZ) : w.heap.size ≤ gb254)); replace HB := zM (below_step mZ hb); have GE254 := GW254; have NB253_254 := zL BK253 hg; have NB254_253 := zG BK253 hg; replace BK253 := zK BK253 hb; clear hb hbox hg; have hnb18 := NB253_254.out; have hnc18 := NB254_253.out; obtain ⟨hcz19_0, hcz19_1, hcz19_2, hcz19_3, hcz19_4, hcz19_5, hcz19_6, hfz19_0, hfz19_1, hfz19_2, hfz19_3, hfz19_4, hfz19_5, hfz19_6⟩ := cells_7 BK253.out) | ((with_reducible refine gate_callee (f := 8) rfl ?_); refine goesL_ (some 4) rfl rfl Try.func8 (by kernel_rfl) rfl #[.agg #[.int .i64 a0_0, .string a0_1, .int .i64 a0_2, .int .i64 a0_3, .string a0_4, .slice A0_5 l0_5.length c0_5, .slice A0_6 l0_6.length c0_6]] rfl yb ?_; (with_reducible refine (pred_Right.calls k a0_0 a0_1 a0_2 a0_3 a0_4 _ _ l0_5 _ _ l0_6 false _ ?side1 ?side2 ?side3 ?side4 A2.out).mono ?_); (case side1 => exact zC (Kd.C_below HR0_5.out HB.out)); (case side2 => first | exact HC0_5.out | exact Kd.V_mono HC0_5.out (fun k_ hk_ => by grind)); (case side3 => exact zC (Kd.C_below HR0_6.out HB.out)); (case side4 => first | exact HC0_6.out | exact Kd.V_mono HC0_6.out (fun k_ hk_ => by grind)); rintro e w20 ⟨rfl, hb⟩; refine ⟨_, rfl, ?_⟩; replace BK253 := zK BK253 hb; replace BK254 := zK BK254 hb; replace HB := zM (below_step mZ hb); (try clear hb); obtain ⟨hcz21_0, hcz21_1, hcz21_2, hcz21_3, hcz21_4, hcz21_5, hcz21_6, hfz21_0, hfz21_1, hfz21_2, hfz21_3, hfz21_4, hfz21_5, hfz21_6⟩ := cells_7 BK253.out) | ((with_reducible refine gate_callee (f := 27) rfl ?_); refine goesL_ (some 7) rfl rfl Try.func27 (by kernel_rfl) rfl #[.agg #[.int .i64 a0_0, .string a0_1, .int .i64 a0_2, .int .i64 a0_3, .string a0_4, .slice A0_5 l0_5.length c0_5, .slice A0_6 l0_6.length c0_6]] rfl yb ?_; (with_reducible refine (pred_Copy.calls k a0_0 a0_1 a0_2 a0_3 a0_4 _ _ l0_5 _ _ l0_6 t267 t268 t269 t270 t271 t272 t275 _ ?side1 ?side2 ?side3 ?side4 A15.out).mono ?_); (case side1 => exact zC (Kd.C_below HR0_5.out HB.out)); (case side2 => first | exact HC0_5.out | exact Kd.V_mono HC0_5.out (fun k_ hk_ => by grind)); (case side3 => exact zC (Kd.C_below HR0_6.out HB.out)); (case side4 => first | exact HC0_6.out | exact Kd.V_mono HC0_6.out (fun k_ hk_ => by grind)); rintro e w22 ⟨v273, v276, rfl, ho0, ho1, hb⟩; refine ⟨_, rfl, ?_⟩; have HO274 := zM (Kd.R_lower (Kd.R_newM (M := fun k_ => (w.heap.size ≤ k_)) ho0 (below_size mZ) (fun k_ h_ => h_)) (below_size mZ)); have HO277 := zM (Kd.R_lower (Kd.R_newB (Kd.R_newB (Kd.R_newM (M := fun k_ => (w.heap.size ≤ k_)) ho1 (below_size mZ) (fun k_ h_ => h_)) (mK BK253.out)) (mK BK254.out)) (below_size mZ)); replace BK253 := zK BK253 hb; replace BK254 := zK BK254 hb; replace HB := zM (below_step mZ hb); (try clear hb); (try clear ho0); (try clear ho1); obtain ⟨hcz23_0, hcz23_1, hcz23_2, hcz23_3, hcz23_4, hcz23_5, hcz23_6, hfz23_0, hfz23_1, hfz23_2, hfz23_3, hfz23_4, hfz23_5, hfz23_6⟩ := cells_7 BK254.out; obtain ⟨Ao24, co24, eo24⟩ := Kd.R_slice HO274.out; subst eo24; obtain ⟨Ao25, co25, eo25⟩ := Kd.R_slice HO277.out; subst eo25))
 refine bodyPost_ret (results_cell_row rfl _ _ gb254 25 #[.int .i64 t267, .string t268, .int .i64 t269, .int .i64 t270, .string t271, .slice Ao24 t272.length co24, .slice Ao25 t275.length co25] (0, 0) _ rfl (by (with_reducible repeat (first | refine blk_drewN ?_ _ | refine blk_drew ?_ | refine blk_alloc ?_ _)); apply puts_7; (with_reducible repeat (first | refine blk_drewN ?_ _ | refine blk_drew ?_ | refine blk_alloc ?_ _)); exact BK254.out) Try.underlying25 rfl (by kernel_rfl)) rfl ?_
 exact ⟨_, _, by first | rfl | (simp [errW_none, errW_some] <;> rfl) | (simp [*, errW_none, errW_some] <;> rfl), Kd.R_V (by (with_reducible repeat (first | apply Kd.R_alloc | apply Kd.R_drewN | apply Kd.R_drew)); exact Kd.R_mono (zgR (Kd.R_types HO274.out BK254.out (by decide))) (fun _ hk => hk.1.1)), Kd.R_V (by (with_reducible repeat (first | apply Kd.R_alloc | apply Kd.R_drewN | apply Kd.R_drew)); exact Kd.R_mono (zgR (Kd.R_mono HO277.out (fun k_ hk => (⟨hk, hk.2⟩ : _ ∧ k_ ≠ gb254)))) (fun _ hk => hk.1.1.1.1)), mZ⟩

/-! ### slices_Index_string_string: function 53 -/
def slices_Index_string_string.l0 : Nat → List ByteArray → ByteArray → Int → Int → Option (Int)
 | 0, _, _, _, _ => none
 | k + 1, x0, x1, x7, x8 => if x8 < x7 then (if 0 ≤ x8 then (if x8 < (x0.length : Int) then (if x1.toList = (rdOf ByteArray.empty x0 x8).toList then (some x8) else (slices_Index_string_string.l0 k x0 x1 x7 (wrap64 (x8 + 1)))) else (none)) else (none)) else (some (-1))
def slices_Index_string_string.f (k : Nat) (l0 : List ByteArray) (a1 : ByteArray) : Option (Int) := slices_Index_string_string.l0 k l0 a1 (l0.length : Int) 0
theorem slices_Index_string_string.mono_l : ∀ k, (∀ y0 y1 y2 y3, LeO (slices_Index_string_string.l0 k y0 y1 y2 y3) (slices_Index_string_string.l0 (k + 1) y0 y1 y2 y3))
 | 0 => fun _ _ _ _ r h => by simp [slices_Index_string_string.l0] at h
 | k + 1 => by
  have ih0 := slices_Index_string_string.mono_l k
  ·intro y0 y1 y2 y3
   unfold slices_Index_string_string.l0
   repeat' first
   | (with_reducible exact ih0 _ _ _ _)
   | (with_reducible exact LeO.refl _)
   | (with_reducible exact LeO.none _)
   | (with_reducible refine LeO.ite ?_ ?_)
   | (with_reducible refine LeO.bind ?_ (fun _ => ?_))
   | exact ih0 _ _ _ _
   | exact LeO.none _
   | refine LeO.ite ?_ ?_
   | refine LeO.bind ?_ (fun _ => ?_)
theorem slices_Index_string_string.mono : ∀ a0 a1 k, LeO (slices_Index_string_string.f k a0 a1) (slices_Index_string_string.f (k + 1) a0 a1) := by
 intro a0 a1 k
 have ih0 := slices_Index_string_string.mono_l k
 unfold slices_Index_string_string.f
 repeat' first
   | (with_reducible exact ih0 _ _ _ _)
   | (with_reducible exact LeO.refl _)
   | (with_reducible exact LeO.none _)
   | (with_reducible refine LeO.ite ?_ ?_)
   | (with_reducible refine LeO.bind ?_ (fun _ => ?_))
   | exact ih0 _ _ _ _
   | exact LeO.none _
   | refine LeO.ite ?_ ?_
   | refine LeO.bind ?_ (fun _ => ?_)
set_option maxHeartbeats 8000000 in
set_option maxRecDepth 100000 in
theorem slices_Index_string_string.calls (k : Nat) (A0 : Option Addr) (c0 : Nat) (l0 : List ByteArray) (a1 : ByteArray) (r : Int) (w : World) (hr0 : Kd.C Kd.string w A0 l0.length l0) (hc0 : l0.length ≤ c0) (h : slices_Index_string_string.f k l0 a1 = some r) :
  Calls Try.prog 53 #[.slice A0 l0.length c0, .string a1] w fun e w' => e = .returned (.int .i64 r) ∧ Drawn0 w w' := by
 have HR0 := zM hr0
 have HC0 := zM hc0
 clear hr0 hc0
 have H : (slices_Index_string_string.l0 k l0 a1 (l0.length : Int) 0) = some r := h
 clear h
 have H' := Aside0.mk H
 clear H
 go_enter Try.func53, Try.ntmps53
 go_wp2
 go_loopg [8] k (fun kq v8 w' => ∃ (x8_1 : Int), v8 = .int .i64 x8_1 ∧ Aside0 (slices_Index_string_string.l0 kq l0 a1 (l0.length : Int) x8_1 = some r) ∧ Aside0 (kq ≤ k) ∧ Drawn0 w w')
 case atStart => exact ⟨(0), ya, H', ⟨Nat.le_refl _⟩, by repeat (first | exact Drawn0.refl _ | apply Drawn0.step)⟩
 case round =>
  clear H'
  obtain ⟨x8_1, rfl, HA, HK1, ⟨m1, rfl⟩⟩ := hrel
  cases gk with
  | zero => exact absurd HA.out (by simp [slices_Index_string_string.l0])
  | succ k1 =>
   have H := HA.out
   clear HA
   simp only [slices_Index_string_string.l0] at H
   by_cases c3 : x8_1 < (l0.length : Int)
   ·rw [if_pos c3] at H
    have c3b0 : decide (x8_1 < (l0.length : Int)) = true := decide_eq_true c3
    clear c3
    by_cases c4 : 0 ≤ x8_1
    ·rw [if_pos c4] at H
     have c4b0 : decide (0 ≤ x8_1) = true := decide_eq_true c4
     clear c4
     by_cases c5 : x8_1 < (l0.length : Int)
     ·rw [if_pos c5] at H
      have c5b0 : decide (x8_1 < (l0.length : Int)) = true := decide_eq_true c5
      clear c5
      by_cases c6 : a1.toList = (rdOf ByteArray.empty l0 x8_1).toList
      ·rw [if_pos c6] at H
       have c6b0 : (a1.toList == (rdOf ByteArray.empty l0 x8_1).toList) = true := beq_iff_eq.mpr c6
       have c6b1 : (a1.toList != (rdOf ByteArray.empty l0 x8_1).toList) = false := bne_eq_false_iff_eq.mpr c6
       clear c6
       obtain rfl := Option.some.inj H
       have p278 : 0 ≤ (x8_1 : Int) := zA
       have q278 : x8_1 < (l0.length : Int) := zA
       obtain ⟨ad278, e278, hx278_0⟩ := Kd.at_string HR0.out x8_1 p278 q278
       cases e278
       replace p278 := eq_true p278
       replace q278 := eq_true q278
       go_wp2
       go_ret
       exact ⟨by first | rfl | (simp; done) | (simp [*]; done), by repeat (first | exact Drawn0.refl _ | apply Drawn0.step)⟩
      rw [if_neg c6] at H
      have c6b0 : (a1.toList == (rdOf ByteArray.empty l0 x8_1).toList) = false := beq_eq_false_iff_ne.mpr c6
      have c6b1 : (a1.toList != (rdOf ByteArray.empty l0 x8_1).toList) = true := bne_iff_ne.mpr c6
      have H' := Aside0.mk H
      clear H
      have p278 : 0 ≤ (x8_1 : Int) := zA
      have q278 : x8_1 < (l0.length : Int) := zA
      obtain ⟨ad278, e278, hx278_0⟩ := Kd.at_string HR0.out x8_1 p278 q278
      cases e278
      replace p278 := eq_true p278
      replace q278 := eq_true q278
      go_wp2
      go_roundg k1
      case measure => have := HK1.out; omega
      case rel => exact ⟨(wrap64 (x8_1 + 1)), ya, H', ⟨by have := HK1.out; omega⟩, by repeat (first | exact Drawn0.refl _ | apply Drawn0.step)⟩
     rw [if_neg c5] at H
     exact absurd H (by simp)
    rw [if_neg c4] at H
    exact absurd H (by simp)
   rw [if_neg c3] at H
   have c3b0 : decide (x8_1 < (l0.length : Int)) = false := decide_eq_false c3
   clear c3
   obtain rfl := Option.some.inj H
   go_wp2
   go_ret
   exact ⟨by first | rfl | (simp; done) | (simp [*]; done), by repeat (first | exact Drawn0.refl _ | apply Drawn0.step)⟩

/-! ### slices_Contains_string_string: function 42 -/
def slices_Contains_string_string.f (k : Nat) (l0 : List ByteArray) (a1 : ByteArray) : Option (Bool) := (slices_Index_string_string.f k l0 a1).bind fun t279 => (some (decide (t279 ≥ 0)))
theorem slices_Contains_string_string.mono : ∀ a0 a1 k, LeO (slices_Contains_string_string.f k a0 a1) (slices_Contains_string_string.f (k + 1) a0 a1) := by
 intro a0 a1 k
 unfold slices_Contains_string_string.f
 repeat' first
   | (with_reducible exact slices_Index_string_string.mono _ _ _)
   | (with_reducible exact LeO.refl _)
   | (with_reducible exact LeO.none _)
   | (with_reducible refine LeO.ite ?_ ?_)
   | (with_reducible refine LeO.bind ?_ (fun _ => ?_))
   | exact slices_Index_string_string.mono _ _ _
   | exact LeO.none _
   | refine LeO.ite ?_ ?_
   | refine LeO.bind ?_ (fun _ => ?_)
set_option maxHeartbeats 8000000 in
set_option maxRecDepth 100000 in
theorem slices_Contains_string_string.calls (k : Nat) (A0 : Option Addr) (c0 : Nat) (l0 : List ByteArray) (a1 : ByteArray) (r : Bool) (w : World) (hr0 : Kd.C Kd.string w A0 l0.length l0) (hc0 : l0.length ≤ c0) (h : slices_Contains_string_string.f k l0 a1 = some r) :
  Calls Try.prog 42 #[.slice A0 l0.length c0, .string a1] w fun e w' => e = .returned (.bool r) ∧ Drawn0 w w' := by
 have HR0 := zM hr0
 have HC0 := zM hc0
 clear hr0 hc0
 have H : ((slices_Index_string_string.f k l0 a1).bind fun t279 => (some (decide (t279 ≥ 0)))) = some r := h
 clear h
 replace H := Option.bind_eq_some_iff.mp H
 obtain ⟨t279, A30, H⟩ := H
 try dsimp only at H
 have A3 := zM A30
 clear A30
 obtain rfl := Option.some.inj H
 go_enter Try.func42, Try.ntmps42
 go_wp2_with (first | ((with_reducible refine gate_callee (f := 53) rfl ?_); refine goesL_ (some 7) rfl rfl Try.func53 (by kernel_rfl) rfl #[.slice A0 l0.length c0, .string a1] rfl yb ?_; (with_reducible refine (slices_Index_string_string.calls k _ _ l0 a1 t279 _ ?side1 ?side2 A3.out).mono ?_); (case side1 => exact zC HR0.out); (case side2 => first | exact HC0.out | exact Kd.V_mono HC0.out (fun k_ hk_ => by grind)); rintro e w' ⟨rfl, ⟨nd, rfl⟩⟩; refine ⟨_, rfl, ?_⟩))
 go_ret
 exact ⟨by first | rfl | (simp; done) | (simp [*]; done), by repeat (first | exact Drawn0.refl _ | apply Drawn0.step)⟩

/-! ### stringslite_HasPrefix: function 54 -/
def stringslite_HasPrefix.f (a0 : ByteArray) (a1 : ByteArray) : Option (Bool) := if (a0.size : Int) ≥ (a1.size : Int) then (if 0 ≤ (a1.size : Int) then (if (a1.size : Int) ≤ (a0.size : Int) then (some ((a0.extract 0 ((a1.size : Int) : Int).toNat).toList == a1.toList)) else (none)) else (none)) else (some false)
set_option maxHeartbeats 8000000 in
set_option maxRecDepth 100000 in
theorem stringslite_HasPrefix.calls (a0 : ByteArray) (a1 : ByteArray) (r : Bool) (w : World) (h : stringslite_HasPrefix.f a0 a1 = some r) :
  Calls Try.prog 54 #[.string a0, .string a1] w fun e w' => e = .returned (.bool r) ∧ Drawn0 w w' := by
 have H : (if (a0.size : Int) ≥ (a1.size : Int) then (if 0 ≤ (a1.size : Int) then (if (a1.size : Int) ≤ (a0.size : Int) then (some ((a0.extract 0 ((a1.size : Int) : Int).toNat).toList == a1.toList)) else (none)) else (none)) else (some false)) = some r := h
 clear h
 by_cases c3 : (a0.size : Int) ≥ (a1.size : Int)
 ·rw [if_pos c3] at H
  have c3b0 : decide ((a1.size : Int) ≤ (a0.size : Int)) = true := decide_eq_true c3
  have c3b1 : decide (a1.size ≤ a0.size) = true := decide_eq_true (Int.ofNat_le.mp c3)
  clear c3
  by_cases c4 : 0 ≤ (a1.size : Int)
  ·rw [if_pos c4] at H
   have c4b0 := eq_true c4
   have c4b1 : decide (0 ≤ (a1.size : Int)) = true := decide_eq_true c4
   clear c4
   by_cases c5 : (a1.size : Int) ≤ (a0.size : Int)
   ·rw [if_pos c5] at H
    have c5b0 := eq_true c5
    have c5b1 : decide ((a1.size : Int) ≤ (a0.size : Int)) = true := decide_eq_true c5
    clear c5
    obtain rfl := Option.some.inj H
    go_enter Try.func54, Try.ntmps54
    go_wp2
    go_ret
    exact ⟨by first | rfl | (simp; done) | (simp [*]; done), by repeat (first | exact Drawn0.refl _ | apply Drawn0.step)⟩
   rw [if_neg c5] at H
   exact absurd H (by simp)
  rw [if_neg c4] at H
  exact absurd H (by simp)
 rw [if_neg c3] at H
 have c3b0 : decide ((a1.size : Int) ≤ (a0.size : Int)) = false := decide_eq_false c3
 have c3b1 : decide (a1.size ≤ a0.size) = false := decide_eq_false (fun h => c3 (Int.ofNat_le.mpr h))
 clear c3
 obtain rfl := Option.some.inj H
 go_enter Try.func54, Try.ntmps54
 go_wp2
 go_ret
 exact ⟨by first | rfl | (simp; done) | (simp [*]; done), by repeat (first | exact Drawn0.refl _ | apply Drawn0.step)⟩

/-! ### strings_HasPrefix: function 43 -/
def strings_HasPrefix.f (a0 : ByteArray) (a1 : ByteArray) : Option (Bool) := (stringslite_HasPrefix.f a0 a1).bind fun t280 => (some t280)
set_option maxHeartbeats 8000000 in
set_option maxRecDepth 100000 in
theorem strings_HasPrefix.calls (a0 : ByteArray) (a1 : ByteArray) (r : Bool) (w : World) (h : strings_HasPrefix.f a0 a1 = some r) :
  Calls Try.prog 43 #[.string a0, .string a1] w fun e w' => e = .returned (.bool r) ∧ Drawn0 w w' := by
 have H : ((stringslite_HasPrefix.f a0 a1).bind fun t280 => (some t280)) = some r := h
 clear h
 replace H := Option.bind_eq_some_iff.mp H
 obtain ⟨t280, A30, H⟩ := H
 try dsimp only at H
 have A3 := zM A30
 clear A30
 obtain rfl := Option.some.inj H
 go_enter Try.func43, Try.ntmps43
 go_wp2_with (first | ((with_reducible refine gate_callee (f := 54) rfl ?_); refine goesL_ (some 7) rfl rfl Try.func54 (by kernel_rfl) rfl #[.string a0, .string a1] rfl yb ?_; (with_reducible refine (stringslite_HasPrefix.calls a0 a1 t280 _ A3.out).mono ?_); rintro e w' ⟨rfl, ⟨nd, rfl⟩⟩; refine ⟨_, rfl, ?_⟩))
 go_ret
 exact ⟨by first | rfl | (simp; done) | (simp [*]; done), by repeat (first | exact Drawn0.refl _ | apply Drawn0.step)⟩

/-! ### pred_Cell: function 33 -/
def pred_Cell.f (k : Nat) (a0_0 : Int) (a0_1 : ByteArray) (a0_2 : Int) (a0_3 : Int) (a0_4 : ByteArray) (l0_5 : List ByteArray) (l0_6 : List (S25)) (a1_0 : ByteArray) (a1_1 : Int) (a1_2 : Int) (a1_3 : ByteArray) : Option (Bool) := if a0_0 = 4 then (if a1_1 = 1 then (some (decide (a1_2 < a0_2))) else (some false)) else (if a0_0 = 5 then (if a1_1 = 1 then (some (a1_2 == a0_2)) else (some false)) else (if a0_0 = 6 then (if a1_1 = 2 then (some (a1_3.toList == a0_4.toList)) else (some false)) else (if a0_0 = 7 then (if a1_1 = 2 then ((slices_Contains_string_string.f k l0_5 a1_3).bind fun t283 => (some t283)) else (some false)) else (if a0_0 = 8 then (if a1_1 = 2 then ((strings_HasPrefix.f a1_3 a0_4).bind fun t284 => (some t284)) else (some false)) else (if a0_0 = 9 then (some (a1_1 == 0)) else (some false))))))
theorem pred_Cell.mono : ∀ a0 a1 a2 a3 a4 a5 a6 a7 a8 a9 a10 k, LeO (pred_Cell.f k a0 a1 a2 a3 a4 a5 a6 a7 a8 a9 a10) (pred_Cell.f (k + 1) a0 a1 a2 a3 a4 a5 a6 a7 a8 a9 a10) := by
 intro a0 a1 a2 a3 a4 a5 a6 a7 a8 a9 a10 k
 unfold pred_Cell.f
 repeat' first
   | (with_reducible exact slices_Contains_string_string.mono _ _ _)
   | (with_reducible exact LeO.refl _)
   | (with_reducible exact LeO.none _)
   | (with_reducible refine LeO.ite ?_ ?_)
   | (with_reducible refine LeO.bind ?_ (fun _ => ?_))
   | exact slices_Contains_string_string.mono _ _ _
   | exact LeO.none _
   | refine LeO.ite ?_ ?_
   | refine LeO.bind ?_ (fun _ => ?_)
set_option maxHeartbeats 8000000 in
set_option maxRecDepth 100000 in
theorem pred_Cell.calls (k : Nat) (a0_0 : Int) (a0_1 : ByteArray) (a0_2 : Int) (a0_3 : Int) (a0_4 : ByteArray) (A0_5 : Option Addr) (c0_5 : Nat) (l0_5 : List ByteArray) (A0_6 : Option Addr) (c0_6 : Nat) (l0_6 : List (S25)) (a1_0 : ByteArray) (a1_1 : Int) (a1_2 : Int) (a1_3 : ByteArray) (r : Bool) (w : World) (hr0_5 : Kd.C Kd.string w A0_5 l0_5.length l0_5) (hc0_5 : l0_5.length ≤ c0_5) (hr0_6 : Kd.C k25 w A0_6 l0_6.length l0_6) (hc0_6 : l0_6.length ≤ c0_6) (h : pred_Cell.f k a0_0 a0_1 a0_2 a0_3 a0_4 l0_5 l0_6 a1_0 a1_1 a1_2 a1_3 = some r) :
  Calls Try.prog 33 #[.agg #[.int .i64 a0_0, .string a0_1, .int .i64 a0_2, .int .i64 a0_3, .string a0_4, .slice A0_5 l0_5.length c0_5, .slice A0_6 l0_6.length c0_6], .agg #[.string a1_0, .int .i64 a1_1, .int .i64 a1_2, .string a1_3]] w fun e w' => e = .returned (.bool r) ∧ Below w.heap.size w w' := by
 have hu25 := Try.underlying25
 have hu52 := Try.underlying52
 have HR0_5 := zM hr0_5
 have HC0_5 := zM hc0_5
 clear hr0_5 hc0_5
 have HR0_6 := zM hr0_6
 have HC0_6 := zM hc0_6
 clear hr0_6 hc0_6
 have HB := zM (Below.refl w.heap.size w)
 have H : (if a0_0 = 4 then (if a1_1 = 1 then (some (decide (a1_2 < a0_2))) else (some false)) else (if a0_0 = 5 then (if a1_1 = 1 then (some (a1_2 == a0_2)) else (some false)) else (if a0_0 = 6 then (if a1_1 = 2 then (some (a1_3.toList == a0_4.toList)) else (some false)) else (if a0_0 = 7 then (if a1_1 = 2 then ((slices_Contains_string_string.f k l0_5 a1_3).bind fun t283 => (some t283)) else (some false)) else (if a0_0 = 8 then (if a1_1 = 2 then ((strings_HasPrefix.f a1_3 a0_4).bind fun t284 => (some t284)) else (some false)) else (if a0_0 = 9 then (some (a1_1 == 0)) else (some false))))))) = some r := h
 clear h
 by_cases c3 : a0_0 = 4
 ·rw [if_pos c3] at H
  have c3b0 : (a0_0 == 4) = true := beq_iff_eq.mpr c3
  have c3b1 : (a0_0 != 4) = false := bne_eq_false_iff_eq.mpr c3
  clear c3
  by_cases c4 : a1_1 = 1
  ·rw [if_pos c4] at H
   have c4b0 : (a1_1 == 1) = true := beq_iff_eq.mpr c4
   have c4b1 : (a1_1 != 1) = false := bne_eq_false_iff_eq.mpr c4
   clear c4
   obtain rfl := Option.some.inj H
   go_enter Try.func33, Try.ntmps33
   go_wp2_with (first | ((with_reducible refine gate_dst (N := 2) rfl ?_); refine box_event ?hg (N := 2) ?hd (cs := #[.int .i64 a0_0, .string a0_1, .int .i64 a0_2, .int .i64 a0_3, .string a0_4, .slice A0_5 l0_5.length c0_5, .slice A0_6 l0_6.length c0_6]) (t := 25) ?hr ?_; (case hd => rfl); (case hg => rfl); (case hr => first | (go_simp; done) | (go_simp; rfl)); intro gb281 hg w5 hbox hb; have BK281 := zM (hbox); have GW281 := zM ((by rw [hg]; exact (below_size (mB HB.out)) : w.heap.size ≤ gb281)); replace HB := zM (below_step (mB HB.out) hb); have GE281 := GW281; clear hb hbox hg) | ((with_reducible refine gate_dst (N := 3) rfl ?_); refine box_event ?hg (N := 3) ?hd (cs := #[.string a1_0, .int .i64 a1_1, .int .i64 a1_2, .string a1_3]) (t := 52) ?hr ?_; (case hd => rfl); (case hg => rfl); (case hr => first | (go_simp; done) | (go_simp; rfl)); intro gb282 hg w6 hbox hb; have BK282 := zM (hbox); have GW282 := zM ((by rw [hg]; exact (below_size mZ) : w.heap.size ≤ gb282)); replace HB := zM (below_step mZ hb); have GE282 := GW282; have NB281_282 := zL BK281 hg; have NB282_281 := zG BK281 hg; replace BK281 := zK BK281 hb; clear hb hbox hg; have hnb7 := NB281_282.out; have hnc7 := NB282_281.out; obtain ⟨hcz8_0, hcz8_1, hcz8_2, hcz8_3, hcz8_4, hcz8_5, hcz8_6, hfz8_0, hfz8_1, hfz8_2, hfz8_3, hfz8_4, hfz8_5, hfz8_6⟩ := cells_7 BK281.out; obtain ⟨hcz9_0, hcz9_1, hcz9_2, hcz9_3, hfz9_0, hfz9_1, hfz9_2, hfz9_3⟩ := cells_4 BK282.out))
   go_ret
   exact ⟨by first | rfl | (simp [errW_none, errW_some] <;> rfl) | (simp [*, errW_none, errW_some] <;> rfl), mZ⟩
  rw [if_neg c4] at H
  have c4b0 : (a1_1 == 1) = false := beq_eq_false_iff_ne.mpr c4
  have c4b1 : (a1_1 != 1) = true := bne_iff_ne.mpr c4
  obtain rfl := Option.some.inj H
  go_enter Try.func33, Try.ntmps33
  go_wp2_with (first | ((with_reducible refine gate_dst (N := 2) rfl ?_); refine box_event ?hg (N := 2) ?hd (cs := #[.int .i64 a0_0, .string a0_1, .int .i64 a0_2, .int .i64 a0_3, .string a0_4, .slice A0_5 l0_5.length c0_5, .slice A0_6 l0_6.length c0_6]) (t := 25) ?hr ?_; (case hd => rfl); (case hg => rfl); (case hr => first | (go_simp; done) | (go_simp; rfl)); intro gb281 hg w10 hbox hb; have BK281 := zM (hbox); have GW281 := zM ((by rw [hg]; exact (below_size (mB HB.out)) : w.heap.size ≤ gb281)); replace HB := zM (below_step (mB HB.out) hb); have GE281 := GW281; clear hb hbox hg) | ((with_reducible refine gate_dst (N := 3) rfl ?_); refine box_event ?hg (N := 3) ?hd (cs := #[.string a1_0, .int .i64 a1_1, .int .i64 a1_2, .string a1_3]) (t := 52) ?hr ?_; (case hd => rfl); (case hg => rfl); (case hr => first | (go_simp; done) | (go_simp; rfl)); intro gb282 hg w11 hbox hb; have BK282 := zM (hbox); have GW282 := zM ((by rw [hg]; exact (below_size mZ) : w.heap.size ≤ gb282)); replace HB := zM (below_step mZ hb); have GE282 := GW282; have NB281_282 := zL BK281 hg; have NB282_281 := zG BK281 hg; replace BK281 := zK BK281 hb; clear hb hbox hg; have hnb12 := NB281_282.out; have hnc12 := NB282_281.out; obtain ⟨hcz13_0, hcz13_1, hcz13_2, hcz13_3, hcz13_4, hcz13_5, hcz13_6, hfz13_0, hfz13_1, hfz13_2, hfz13_3, hfz13_4, hfz13_5, hfz13_6⟩ := cells_7 BK281.out; obtain ⟨hcz14_0, hcz14_1, hcz14_2, hcz14_3, hfz14_0, hfz14_1, hfz14_2, hfz14_3⟩ := cells_4 BK282.out))
  go_ret
  exact ⟨by first | rfl | (simp [errW_none, errW_some] <;> rfl) | (simp [*, errW_none, errW_some] <;> rfl), mZ⟩
 rw [if_neg c3] at H
 have c3b0 : (a0_0 == 4) = false := beq_eq_false_iff_ne.mpr c3
 have c3b1 : (a0_0 != 4) = true := bne_iff_ne.mpr c3
 by_cases c15 : a0_0 = 5
 ·rw [if_pos c15] at H
  have c15b0 : (a0_0 == 5) = true := beq_iff_eq.mpr c15
  have c15b1 : (a0_0 != 5) = false := bne_eq_false_iff_eq.mpr c15
  clear c15
  by_cases c16 : a1_1 = 1
  ·rw [if_pos c16] at H
   have c16b0 : (a1_1 == 1) = true := beq_iff_eq.mpr c16
   have c16b1 : (a1_1 != 1) = false := bne_eq_false_iff_eq.mpr c16
   clear c16
   obtain rfl := Option.some.inj H
   go_enter Try.func33, Try.ntmps33
   go_wp2_with (first | ((with_reducible refine gate_dst (N := 2) rfl ?_); refine box_event ?hg (N := 2) ?hd (cs := #[.int .i64 a0_0, .string a0_1, .int .i64 a0_2, .int .i64 a0_3, .string a0_4, .slice A0_5 l0_5.length c0_5, .slice A0_6 l0_6.length c0_6]) (t := 25) ?hr ?_; (case hd => rfl); (case hg => rfl); (case hr => first | (go_simp; done) | (go_simp; rfl)); intro gb281 hg w17 hbox hb; have BK281 := zM (hbox); have GW281 := zM ((by rw [hg]; exact (below_size (mB HB.out)) : w.heap.size ≤ gb281)); replace HB := zM (below_step (mB HB.out) hb); have GE281 := GW281; clear hb hbox hg) | ((with_reducible refine gate_dst (N := 3) rfl ?_); refine box_event ?hg (N := 3) ?hd (cs := #[.string a1_0, .int .i64 a1_1, .int .i64 a1_2, .string a1_3]) (t := 52) ?hr ?_; (case hd => rfl); (case hg => rfl); (case hr => first | (go_simp; done) | (go_simp; rfl)); intro gb282 hg w18 hbox hb; have BK282 := zM (hbox); have GW282 := zM ((by rw [hg]; exact (below_size mZ) : w.heap.size ≤ gb282)); replace HB := zM (below_step mZ hb); have GE282 := GW282; have NB281_282 := zL BK281 hg; have NB282_281 := zG BK281 hg; replace BK281 := zK BK281 hb; clear hb hbox hg; have hnb19 := NB281_282.out; have hnc19 := NB282_281.out; obtain ⟨hcz20_0, hcz20_1, hcz20_2, hcz20_3, hcz20_4, hcz20_5, hcz20_6, hfz20_0, hfz20_1, hfz20_2, hfz20_3, hfz20_4, hfz20_5, hfz20_6⟩ := cells_7 BK281.out; obtain ⟨hcz21_0, hcz21_1, hcz21_2, hcz21_3, hfz21_0, hfz21_1, hfz21_2, hfz21_3⟩ := cells_4 BK282.out))
   go_ret
   exact ⟨by first | rfl | (simp [errW_none, errW_some] <;> rfl) | (simp [*, errW_none, errW_some] <;> rfl), mZ⟩
  rw [if_neg c16] at H
  have c16b0 : (a1_1 == 1) = false := beq_eq_false_iff_ne.mpr c16
  have c16b1 : (a1_1 != 1) = true := bne_iff_ne.mpr c16
  obtain rfl := Option.some.inj H
  go_enter Try.func33, Try.ntmps33
  go_wp2_with (first | ((with_reducible refine gate_dst (N := 2) rfl ?_); refine box_event ?hg (N := 2) ?hd (cs := #[.int .i64 a0_0, .string a0_1, .int .i64 a0_2, .int .i64 a0_3, .string a0_4, .slice A0_5 l0_5.length c0_5, .slice A0_6 l0_6.length c0_6]) (t := 25) ?hr ?_; (case hd => rfl); (case hg => rfl); (case hr => first | (go_simp; done) | (go_simp; rfl)); intro gb281 hg w22 hbox hb; have BK281 := zM (hbox); have GW281 := zM ((by rw [hg]; exact (below_size (mB HB.out)) : w.heap.size ≤ gb281)); replace HB := zM (below_step (mB HB.out) hb); have GE281 := GW281; clear hb hbox hg) | ((with_reducible refine gate_dst (N := 3) rfl ?_); refine box_event ?hg (N := 3) ?hd (cs := #[.string a1_0, .int .i64 a1_1, .int .i64 a1_2, .string a1_3]) (t := 52) ?hr ?_; (case hd => rfl); (case hg => rfl); (case hr => first | (go_simp; done) | (go_simp; rfl)); intro gb282 hg w23 hbox hb; have BK282 := zM (hbox); have GW282 := zM ((by rw [hg]; exact (below_size mZ) : w.heap.size ≤ gb282)); replace HB := zM (below_step mZ hb); have GE282 := GW282; have NB281_282 := zL BK281 hg; have NB282_281 := zG BK281 hg; replace BK281 := zK BK281 hb; clear hb hbox hg; have hnb24 := NB281_282.out; have hnc24 := NB282_281.out; obtain ⟨hcz25_0, hcz25_1, hcz25_2, hcz25_3, hcz25_4, hcz25_5, hcz25_6, hfz25_0, hfz25_1, hfz25_2, hfz25_3, hfz25_4, hfz25_5, hfz25_6⟩ := cells_7 BK281.out; obtain ⟨hcz26_0, hcz26_1, hcz26_2, hcz26_3, hfz26_0, hfz26_1, hfz26_2, hfz26_3⟩ := cells_4 BK282.out))
  go_ret
  exact ⟨by first | rfl | (simp [errW_none, errW_some] <;> rfl) | (simp [*, errW_none, errW_some] <;> rfl), mZ⟩
 rw [if_neg c15] at H
 have c15b0 : (a0_0 == 5) = false := beq_eq_false_iff_ne.mpr c15
 have c15b1 : (a0_0 != 5) = true := bne_iff_ne.mpr c15
 by_cases c27 : a0_0 = 6
 ·rw [if_pos c27] at H
  have c27b0 : (a0_0 == 6) = true := beq_iff_eq.mpr c27
  have c27b1 : (a0_0 != 6) = false := bne_eq_false_iff_eq.mpr c27
  clear c27
  by_cases c28 : a1_1 = 2
  ·rw [if_pos c28] at H
   have c28b0 : (a1_1 == 2) = true := beq_iff_eq.mpr c28
   have c28b1 : (a1_1 != 2) = false := bne_eq_false_iff_eq.mpr c28
   clear c28
   obtain rfl := Option.some.inj H
   go_enter Try.func33, Try.ntmps33
   go_wp2_with (first | ((with_reducible refine gate_dst (N := 2) rfl ?_); refine box_event ?hg (N := 2) ?hd (cs := #[.int .i64 a0_0, .string a0_1, .int .i64 a0_2, .int .i64 a0_3, .string a0_4, .slice A0_5 l0_5.length c0_5, .slice A0_6 l0_6.length c0_6]) (t := 25) ?hr ?_; (case hd => rfl); (case hg => rfl); (case hr => first | (go_simp; done) | (go_simp; rfl)); intro gb281 hg w29 hbox hb; have BK281 := zM (hbox); have GW281 := zM ((by rw [hg]; exact (below_size (mB HB.out)) : w.heap.size ≤ gb281)); replace HB := zM (below_step (mB HB.out) hb); have GE281 := GW281; clear hb hbox hg) | ((with_reducible refine gate_dst (N := 3) rfl ?_); refine box_event ?hg (N := 3) ?hd (cs := #[.string a1_0, .int .i64 a1_1, .int .i64 a1_2, .string a1_3]) (t := 52) ?hr ?_; (case hd => rfl); (case hg => rfl); (case hr => first | (go_simp; done) | (go_simp; rfl)); intro gb282 hg w30 hbox hb; have BK282 := zM (hbox); have GW282 := zM ((by rw [hg]; exact (below_size mZ) : w.heap.size ≤ gb282)); replace HB := zM (below_step mZ hb); have GE282 := GW282; have NB281_282 := zL BK281 hg; have NB282_281 := zG BK281 hg; replace BK281 := zK BK281 hb; clear hb hbox hg; have hnb31 := NB281_282.out; have hnc31 := NB282_281.out; obtain ⟨hcz32_0, hcz32_1, hcz32_2, hcz32_3, hcz32_4, hcz32_5, hcz32_6, hfz32_0, hfz32_1, hfz32_2, hfz32_3, hfz32_4, hfz32_5, hfz32_6⟩ := cells_7 BK281.out; obtain ⟨hcz33_0, hcz33_1, hcz33_2, hcz33_3, hfz33_0, hfz33_1, hfz33_2, hfz33_3⟩ := cells_4 BK282.out))
   go_ret
   exact ⟨by first | rfl | (simp [errW_none, errW_some] <;> rfl) | (simp [*, errW_none, errW_some] <;> rfl), mZ⟩
  rw [if_neg c28] at H
  have c28b0 : (a1_1 == 2) = false := beq_eq_false_iff_ne.mpr c28
  have c28b1 : (a1_1 != 2) = true := bne_iff_ne.mpr c28
  obtain rfl := Option.some.inj H
  go_enter Try.func33, Try.ntmps33
  go_wp2_with (first | ((with_reducible refine gate_dst (N := 2) rfl ?_); refine box_event ?hg (N := 2) ?hd (cs := #[.int .i64 a0_0, .string a0_1, .int .i64 a0_2, .int .i64 a0_3, .string a0_4, .slice A0_5 l0_5.length c0_5, .slice A0_6 l0_6.length c0_6]) (t := 25) ?hr ?_; (case hd => rfl); (case hg => rfl); (case hr => first | (go_simp; done) | (go_simp; rfl)); intro gb281 hg w34 hbox hb; have BK281 := zM (hbox); have GW281 := zM ((by rw [hg]; exact (below_size (mB HB.out)) : w.heap.size ≤ gb281)); replace HB := zM (below_step (mB HB.out) hb); have GE281 := GW281; clear hb hbox hg) | ((with_reducible refine gate_dst (N := 3) rfl ?_); refine box_event ?hg (N := 3) ?hd (cs := #[.string a1_0, .int .i64 a1_1, .int .i64 a1_2, .string a1_3]) (t := 52) ?hr ?_; (case hd => rfl); (case hg => rfl); (case hr => first | (go_simp; done) | (go_simp; rfl)); intro gb282 hg w35 hbox hb; have BK282 := zM (hbox); have GW282 := zM ((by rw [hg]; exact (below_size mZ) : w.heap.size ≤ gb282)); replace HB := zM (below_step mZ hb); have GE282 := GW282; have NB281_282 := zL BK281 hg; have NB282_281 := zG BK281 hg; replace BK281 := zK BK281 hb; clear hb hbox hg; have hnb36 := NB281_282.out; have hnc36 := NB282_281.out; obtain ⟨hcz37_0, hcz37_1, hcz37_2, hcz37_3, hcz37_4, hcz37_5, hcz37_6, hfz37_0, hfz37_1, hfz37_2, hfz37_3, hfz37_4, hfz37_5, hfz37_6⟩ := cells_7 BK281.out; obtain ⟨hcz38_0, hcz38_1, hcz38_2, hcz38_3, hfz38_0, hfz38_1, hfz38_2, hfz38_3⟩ := cells_4 BK282.out))
  go_ret
  exact ⟨by first | rfl | (simp [errW_none, errW_some] <;> rfl) | (simp [*, errW_none, errW_some] <;> rfl), mZ⟩
 rw [if_neg c27] at H
 have c27b0 : (a0_0 == 6) = false := beq_eq_false_iff_ne.mpr c27
 have c27b1 : (a0_0 != 6) = true := bne_iff_ne.mpr c27
 by_cases c39 : a0_0 = 7
 ·rw [if_pos c39] at H
  have c39b0 : (a0_0 == 7) = true := beq_iff_eq.mpr c39
  have c39b1 : (a0_0 != 7) = false := bne_eq_false_iff_eq.mpr c39
  clear c39
  by_cases c40 : a1_1 = 2
  ·rw [if_pos c40] at H
   have c40b0 : (a1_1 == 2) = true := beq_iff_eq.mpr c40
   have c40b1 : (a1_1 != 2) = false := bne_eq_false_iff_eq.mpr c40
   clear c40
   replace H := Option.bind_eq_some_iff.mp H
   obtain ⟨t283, A410, H⟩ := H
   try dsimp only at H
   have A41 := zM A410
   clear A410
   obtain rfl := Option.some.inj H
   go_enter Try.func33, Try.ntmps33
   go_wp2_with (first | ((with_reducible refine gate_dst (N := 2) rfl ?_); refine box_event ?hg (N := 2) ?hd (cs := #[.int .i64 a0_0, .string a0_1, .int .i64 a0_2, .int .i64 a0_3, .string a0_4, .slice A0_5 l0_5.length c0_5, .slice A0_6 l0_6.length c0_6]) (t := 25) ?hr ?_; (case hd => rfl); (case hg => rfl); (case hr => first | (go_simp; done) | (go_simp; rfl)); intro gb281 hg w42 hbox hb; have BK281 := zM (hbox); have GW281 := zM ((by rw [hg]; exact (below_size (mB HB.out)) : w.heap.size ≤ gb281)); replace HB := zM (below_step (mB HB.out) hb); have GE281 := GW281; clear hb hbox hg) | ((with_reducible refine gate_dst (N := 3) rfl ?_); refine box_event ?hg (N := 3) ?hd (cs := #[.string a1_0, .int .i64 a1_1, .int .i64 a1_2, .string a1_3]) (t := 52) ?hr ?_; (case hd => rfl); (case hg => rfl); (case hr => first | (go_simp; done) | (go_simp; rfl)); intro gb282 hg w43 hbox hb; have BK282 := zM (hbox); have GW282 := zM ((by rw [hg]; exact (below_size mZ) : w.heap.size ≤ gb282)); replace HB := zM (below_step mZ hb); have GE282 := GW282; have NB281_282 := zL BK281 hg; have NB282_281 := zG BK281 hg; replace BK281 := zK BK281 hb; clear hb hbox hg; have hnb44 := NB281_282.out; have hnc44 := NB282_281.out; obtain ⟨hcz45_0, hcz45_1, hcz45_2, hcz45_3, hcz45_4, hcz45_5, hcz45_6, hfz45_0, hfz45_1, hfz45_2, hfz45_3, hfz45_4, hfz45_5, hfz45_6⟩ := cells_7 BK281.out; obtain ⟨hcz46_0, hcz46_1, hcz46_2, hcz46_3, hfz46_0, hfz46_1, hfz46_2, hfz46_3⟩ := cells_4 BK282.out) | (go_at_call 42; (with_reducible refine (slices_Contains_string_string.calls k _ _ l0_5 a1_3 t283 _ ?side1 ?side2 A41.out).mono ?_); (case side1 => exact zC (Kd.C_below HR0_5.out HB.out)); (case side2 => first | exact HC0_5.out | exact Kd.V_mono HC0_5.out (fun k_ hk_ => by grind)); rintro e w' ⟨rfl, ⟨nd, rfl⟩⟩))
   go_ret
   exact ⟨by first | rfl | (simp [errW_none, errW_some] <;> rfl) | (simp [*, errW_none, errW_some] <;> rfl), mZ⟩
  rw [if_neg c40] at H
  have c40b0 : (a1_1 == 2) = false := beq_eq_false_iff_ne.mpr c40
  have c40b1 : (a1_1 != 2) = true := bne_iff_ne.mpr c40
  obtain rfl := Option.some.inj H
  go_enter Try.func33, Try.ntmps33
  go_wp2_with (first | ((with_reducible refine gate_dst (N := 2) rfl ?_); refine box_event ?hg (N := 2) ?hd (cs := #[.int .i64 a0_0, .string a0_1, .int .i64 a0_2, .int .i64 a0_3, .string a0_4, .slice A0_5 l0_5.length c0_5, .slice A0_6 l0_6.length c0_6]) (t := 25) ?hr ?_; (case hd => rfl); (case hg => rfl); (case hr => first | (go_simp; done) | (go_simp; rfl)); intro gb281 hg w47 hbox hb; have BK281 := zM (hbox); have GW281 := zM ((by rw [hg]; exact (below_size (mB HB.out)) : w.heap.size ≤ gb281)); replace HB := zM (below_step (mB HB.out) hb); have GE281 := GW281; clear hb hbox hg) | ((with_reducible refine gate_dst (N := 3) rfl ?_); refine box_event ?hg (N := 3) ?hd (cs := #[.string a1_0, .int .i64 a1_1, .int .i64 a1_2, .string a1_3]) (t := 52) ?hr ?_; (case hd => rfl); (case hg => rfl); (case hr => first | (go_simp; done) | (go_simp; rfl)); intro gb282 hg w48 hbox hb; have BK282 := zM (hbox); have GW282 := zM ((by rw [hg]; exact (below_size mZ) : w.heap.size ≤ gb282)); replace HB := zM (below_step mZ hb); have GE282 := GW282; have NB281_282 := zL BK281 hg; have NB282_281 := zG BK281 hg; replace BK281 := zK BK281 hb; clear hb hbox hg; have hnb49 := NB281_282.out; have hnc49 := NB282_281.out; obtain ⟨hcz50_0, hcz50_1, hcz50_2, hcz50_3, hcz50_4, hcz50_5, hcz50_6, hfz50_0, hfz50_1, hfz50_2, hfz50_3, hfz50_4, hfz50_5, hfz50_6⟩ := cells_7 BK281.out; obtain ⟨hcz51_0, hcz51_1, hcz51_2, hcz51_3, hfz51_0, hfz51_1, hfz51_2, hfz51_3⟩ := cells_4 BK282.out))
  go_ret
  exact ⟨by first | rfl | (simp [errW_none, errW_some] <;> rfl) | (simp [*, errW_none, errW_some] <;> rfl), mZ⟩
 rw [if_neg c39] at H
 have c39b0 : (a0_0 == 7) = false := beq_eq_false_iff_ne.mpr c39
 have c39b1 : (a0_0 != 7) = true := bne_iff_ne.mpr c39
 by_cases c52 : a0_0 = 8
 ·rw [if_pos c52] at H
  have c52b0 : (a0_0 == 8) = true := beq_iff_eq.mpr c52
  have c52b1 : (a0_0 != 8) = false := bne_eq_false_iff_eq.mpr c52
  clear c52
  by_cases c53 : a1_1 = 2
  ·rw [if_pos c53] at H
   have c53b0 : (a1_1 == 2) = true := beq_iff_eq.mpr c53
   have c53b1 : (a1_1 != 2) = false := bne_eq_false_iff_eq.mpr c53
   clear c53
   replace H := Option.bind_eq_some_iff.mp H
   obtain ⟨t284, A540, H⟩ := H
   try dsimp only at H
   have A54 := zM A540
   clear A540
   obtain rfl := Option.some.inj H
   go_enter Try.func33, Try.ntmps33
   go_wp2_with (first | ((with_reducible refine gate_dst (N := 2) rfl ?_); refine box_event ?hg (N := 2) ?hd (cs := #[.int .i64 a0_0, .string a0_1, .int .i64 a0_2, .int .i64 a0_3, .string a0_4, .slice A0_5 l0_5.length c0_5, .slice A0_6 l0_6.length c0_6]) (t := 25) ?hr ?_; (case hd => rfl); (case hg => rfl); (case hr => first | (go_simp; done) | (go_simp; rfl)); intro gb281 hg w55 hbox hb; have BK281 := zM (hbox); have GW281 := zM ((by rw [hg]; exact (below_size (mB HB.out)) : w.heap.size ≤ gb281)); replace HB := zM (below_step (mB HB.out) hb); have GE281 := GW281; clear hb hbox hg) | ((with_reducible refine gate_dst (N := 3) rfl ?_); refine box_event ?hg (N := 3) ?hd (cs := #[.string a1_0, .int .i64 a1_1, .int .i64 a1_2, .string a1_3]) (t := 52) ?hr ?_; (case hd => rfl); (case hg => rfl); (case hr => first | (go_simp; done) | (go_simp; rfl)); intro gb282 hg w56 hbox hb; have BK282 := zM (hbox); have GW282 := zM ((by rw [hg]; exact (below_size mZ) : w.heap.size ≤ gb282)); replace HB := zM (below_step mZ hb); have GE282 := GW282; have NB281_282 := zL BK281 hg; have NB282_281 := zG BK281 hg; replace BK281 := zK BK281 hb; clear hb hbox hg; have hnb57 := NB281_282.out; have hnc57 := NB282_281.out; obtain ⟨hcz58_0, hcz58_1, hcz58_2, hcz58_3, hcz58_4, hcz58_5, hcz58_6, hfz58_0, hfz58_1, hfz58_2, hfz58_3, hfz58_4, hfz58_5, hfz58_6⟩ := cells_7 BK281.out; obtain ⟨hcz59_0, hcz59_1, hcz59_2, hcz59_3, hfz59_0, hfz59_1, hfz59_2, hfz59_3⟩ := cells_4 BK282.out) | (go_at_call 43; (with_reducible refine (strings_HasPrefix.calls a1_3 a0_4 t284 _ A54.out).mono ?_); rintro e w' ⟨rfl, ⟨nd, rfl⟩⟩))
   go_ret
   exact ⟨by first | rfl | (simp [errW_none, errW_some] <;> rfl) | (simp [*, errW_none, errW_some] <;> rfl), mZ⟩
  rw [if_neg c53] at H
  have c53b0 : (a1_1 == 2) = false := beq_eq_false_iff_ne.mpr c53
  have c53b1 : (a1_1 != 2) = true := bne_iff_ne.mpr c53
  obtain rfl := Option.some.inj H
  go_enter Try.func33, Try.ntmps33
  go_wp2_with (first | ((with_reducible refine gate_dst (N := 2) rfl ?_); refine box_event ?hg (N := 2) ?hd (cs := #[.int .i64 a0_0, .string a0_1, .int .i64 a0_2, .int .i64 a0_3, .string a0_4, .slice A0_5 l0_5.length c0_5, .slice A0_6 l0_6.length c0_6]) (t := 25) ?hr ?_; (case hd => rfl); (case hg => rfl); (case hr => first | (go_simp; done) | (go_simp; rfl)); intro gb281 hg w60 hbox hb; have BK281 := zM (hbox); have GW281 := zM ((by rw [hg]; exact (below_size (mB HB.out)) : w.heap.size ≤ gb281)); replace HB := zM (below_step (mB HB.out) hb); have GE281 := GW281; clear hb hbox hg) | ((with_reducible refine gate_dst (N := 3) rfl ?_); refine box_event ?hg (N := 3) ?hd (cs := #[.string a1_0, .int .i64 a1_1, .int .i64 a1_2, .string a1_3]) (t := 52) ?hr ?_; (case hd => rfl); (case hg => rfl); (case hr => first | (go_simp; done) | (go_simp; rfl)); intro gb282 hg w61 hbox hb; have BK282 := zM (hbox); have GW282 := zM ((by rw [hg]; exact (below_size mZ) : w.heap.size ≤ gb282)); replace HB := zM (below_step mZ hb); have GE282 := GW282; have NB281_282 := zL BK281 hg; have NB282_281 := zG BK281 hg; replace BK281 := zK BK281 hb; clear hb hbox hg; have hnb62 := NB281_282.out; have hnc62 := NB282_281.out; obtain ⟨hcz63_0, hcz63_1, hcz63_2, hcz63_3, hcz63_4, hcz63_5, hcz63_6, hfz63_0, hfz63_1, hfz63_2, hfz63_3, hfz63_4, hfz63_5, hfz63_6⟩ := cells_7 BK281.out; obtain ⟨hcz64_0, hcz64_1, hcz64_2, hcz64_3, hfz64_0, hfz64_1, hfz64_2, hfz64_3⟩ := cells_4 BK282.out))
  go_ret
  exact ⟨by first | rfl | (simp [errW_none, errW_some] <;> rfl) | (simp [*, errW_none, errW_some] <;> rfl), mZ⟩
 rw [if_neg c52] at H
 have c52b0 : (a0_0 == 8) = false := beq_eq_false_iff_ne.mpr c52
 have c52b1 : (a0_0 != 8) = true := bne_iff_ne.mpr c52
 by_cases c65 : a0_0 = 9
 ·rw [if_pos c65] at H
  have c65b0 : (a0_0 == 9) = true := beq_iff_eq.mpr c65
  have c65b1 : (a0_0 != 9) = false := bne_eq_false_iff_eq.mpr c65
  clear c65
  obtain rfl := Option.some.inj H
  go_enter Try.func33, Try.ntmps33
  go_wp2_with (first | ((with_reducible refine gate_dst (N := 2) rfl ?_); refine box_event ?hg (N := 2) ?hd (cs := #[.int .i64 a0_0, .string a0_1, .int .i64 a0_2, .int .i64 a0_3, .string a0_4, .slice A0_5 l0_5.length c0_5, .slice A0_6 l0_6.length c0_6]) (t := 25) ?hr ?_; (case hd => rfl); (case hg => rfl); (case hr => first | (go_simp; done) | (go_simp; rfl)); intro gb281 hg w66 hbox hb; have BK281 := zM (hbox); have GW281 := zM ((by rw [hg]; exact (below_size (mB HB.out)) : w.heap.size ≤ gb281)); replace HB := zM (below_step (mB HB.out) hb); have GE281 := GW281; clear hb hbox hg) | ((with_reducible refine gate_dst (N := 3) rfl ?_); refine box_event ?hg (N := 3) ?hd (cs := #[.string a1_0, .int .i64 a1_1, .int .i64 a1_2, .string a1_3]) (t := 52) ?hr ?_; (case hd => rfl); (case hg => rfl); (case hr => first | (go_simp; done) | (go_simp; rfl)); intro gb282 hg w67 hbox hb; have BK282 := zM (hbox); have GW282 := zM ((by rw [hg]; exact (below_size mZ) : w.heap.size ≤ gb282)); replace HB := zM (below_step mZ hb); have GE282 := GW282; have NB281_282 := zL BK281 hg; have NB282_281 := zG BK281 hg; replace BK281 := zK BK281 hb; clear hb hbox hg; have hnb68 := NB281_282.out; have hnc68 := NB282_281.out; obtain ⟨hcz69_0, hcz69_1, hcz69_2, hcz69_3, hcz69_4, hcz69_5, hcz69_6, hfz69_0, hfz69_1, hfz69_2, hfz69_3, hfz69_4, hfz69_5, hfz69_6⟩ := cells_7 BK281.out; obtain ⟨hcz70_0, hcz70_1, hcz70_2, hcz70_3, hfz70_0, hfz70_1, hfz70_2, hfz70_3⟩ := cells_4 BK282.out))
  go_ret
  exact ⟨by first | rfl | (simp [errW_none, errW_some] <;> rfl) | (simp [*, errW_none, errW_some] <;> rfl), mZ⟩
 rw [if_neg c65] at H
 have c65b0 : (a0_0 == 9) = false := beq_eq_false_iff_ne.mpr c65
 have c65b1 : (a0_0 != 9) = true := bne_iff_ne.mpr c65
 obtain rfl := Option.some.inj H
 go_enter Try.func33, Try.ntmps33
 go_wp2_with (first | ((with_reducible refine gate_dst (N := 2) rfl ?_); refine box_event ?hg (N := 2) ?hd (cs := #[.int .i64 a0_0, .string a0_1, .int .i64 a0_2, .int .i64 a0_3, .string a0_4, .slice A0_5 l0_5.length c0_5, .slice A0_6 l0_6.length c0_6]) (t := 25) ?hr ?_; (case hd => rfl); (case hg => rfl); (case hr => first | (go_simp; done) | (go_simp; rfl)); intro gb281 hg w71 hbox hb; have BK281 := zM (hbox); have GW281 := zM ((by rw [hg]; exact (below_size (mB HB.out)) : w.heap.size ≤ gb281)); replace HB := zM (below_step (mB HB.out) hb); have GE281 := GW281; clear hb hbox hg) | ((with_reducible refine gate_dst (N := 3) rfl ?_); refine box_event ?hg (N := 3) ?hd (cs := #[.string a1_0, .int .i64 a1_1, .int .i64 a1_2, .string a1_3]) (t := 52) ?hr ?_; (case hd => rfl); (case hg => rfl); (case hr => first | (go_simp; done) | (go_simp; rfl)); intro gb282 hg w72 hbox hb; have GW282 := zM ((by rw [hg]; exact (below_size mZ) : w.heap.size ≤ gb282)); replace HB := zM (below_step mZ hb); have GE282 := GW282; have NB281_282 := zL BK281 hg; have NB282_281 := zG BK281 hg; replace BK281 := zK BK281 hb; clear hb hbox hg; have hnb73 := NB281_282.out; have hnc73 := NB282_281.out; obtain ⟨hcz74_0, hcz74_1, hcz74_2, hcz74_3, hcz74_4, hcz74_5, hcz74_6, hfz74_0, hfz74_1, hfz74_2, hfz74_3, hfz74_4, hfz74_5, hfz74_6⟩ := cells_7 BK281.out))
 go_ret
 exact ⟨by first | rfl | (simp [errW_none, errW_some] <;> rfl) | (simp [*, errW_none, errW_some] <;> rfl), mZ⟩

/-! ### row_Cell: function 34 -/
def row_Cell.l0 : Nat → ByteArray → List (S52) → Int → Int → Option (ByteArray × Int × Int × ByteArray)
 | 0, _, _, _, _ => none
 | k + 1, x1, x8, x9, x10 => if x10 < x9 then (if 0 ≤ x10 then (if x10 < (x8.length : Int) then (if ((rd_T52 x8 x10).f0).toList = x1.toList then (some ((rd_T52 x8 x10).f0, (rd_T52 x8 x10).f1, (rd_T52 x8 x10).f2, (rd_T52 x8 x10).f3)) else (row_Cell.l0 k x1 x8 x9 (wrap64 (x10 + 1)))) else (none)) else (none)) else (some ((⟨#[]⟩ : ByteArray), 0, 0, (⟨#[]⟩ : ByteArray)))
def row_Cell.f (k : Nat) (a0_0 : Int) (a0_1 : Int) (l0_2 : List (S52)) (a1 : ByteArray) : Option (ByteArray × Int × Int × ByteArray) := row_Cell.l0 k a1 l0_2 (l0_2.length : Int) 0
theorem row_Cell.mono_l : ∀ k, (∀ y0 y1 y2 y3, LeO (row_Cell.l0 k y0 y1 y2 y3) (row_Cell.l0 (k + 1) y0 y1 y2 y3))
 | 0 => fun _ _ _ _ r h => by simp [row_Cell.l0] at h
 | k + 1 => by
  have ih0 := row_Cell.mono_l k
  ·intro y0 y1 y2 y3
   unfold row_Cell.l0
   repeat' first
   | (with_reducible exact ih0 _ _ _ _)
   | (with_reducible exact LeO.refl _)
   | (with_reducible exact LeO.none _)
   | (with_reducible refine LeO.ite ?_ ?_)
   | (with_reducible refine LeO.bind ?_ (fun _ => ?_))
   | exact ih0 _ _ _ _
   | exact LeO.none _
   | refine LeO.ite ?_ ?_
   | refine LeO.bind ?_ (fun _ => ?_)
theorem row_Cell.mono : ∀ a0 a1 a2 a3 k, LeO (row_Cell.f k a0 a1 a2 a3) (row_Cell.f (k + 1) a0 a1 a2 a3) := by
 intro a0 a1 a2 a3 k
 have ih0 := row_Cell.mono_l k
 unfold row_Cell.f
 repeat' first
   | (with_reducible exact ih0 _ _ _ _)
   | (with_reducible exact LeO.refl _)
   | (with_reducible exact LeO.none _)
   | (with_reducible refine LeO.ite ?_ ?_)
   | (with_reducible refine LeO.bind ?_ (fun _ => ?_))
   | exact ih0 _ _ _ _
   | exact LeO.none _
   | refine LeO.ite ?_ ?_
   | refine LeO.bind ?_ (fun _ => ?_)
set_option maxHeartbeats 8000000 in
set_option maxRecDepth 100000 in
theorem row_Cell.calls (k : Nat) (a0_0 : Int) (a0_1 : Int) (A0_2 : Option Addr) (c0_2 : Nat) (l0_2 : List (S52)) (a1 : ByteArray) (r1 : ByteArray) (r2 : Int) (r3 : Int) (r4 : ByteArray) (w : World) (hr0_2 : Kd.C k52 w A0_2 l0_2.length l0_2) (hc0_2 : l0_2.length ≤ c0_2) (h : row_Cell.f k a0_0 a0_1 l0_2 a1 = some (r1, r2, r3, r4)) :
  Calls Try.prog 34 #[.agg #[.int .i64 a0_0, .int .i64 a0_1, .slice A0_2 l0_2.length c0_2], .string a1] w fun e w' => e = .returned (.agg #[.string r1, .int .i64 r2, .int .i64 r3, .string r4]) ∧ Below w.heap.size w w' := by
 have hu36 := Try.underlying36
 have hu52 := Try.underlying52
 have HR0_2 := zM hr0_2
 have HC0_2 := zM hc0_2
 clear hr0_2 hc0_2
 have HB := zM (Below.refl w.heap.size w)
 have H : (row_Cell.l0 k a1 l0_2 (l0_2.length : Int) 0) = some (r1, r2, r3, r4) := h
 clear h
 have H' := Aside0.mk H
 clear H
 go_enter Try.func34, Try.ntmps34
 go_wp2_with (first | ((with_reducible refine gate_dst (N := 2) rfl ?_); refine box_event ?hg (N := 2) ?hd (cs := #[.int .i64 a0_0, .int .i64 a0_1, .slice A0_2 l0_2.length c0_2]) (t := 36) ?hr ?_; (case hd => rfl); (case hg => rfl); (case hr => first | (go_simp; done) | (go_simp; rfl)); intro gb285 hg w3 hbox hb; have BK285 := zM (hbox); have GW285 := zM ((by rw [hg]; exact (below_size (mB HB.out)) : w.heap.size ≤ gb285)); replace HB := zM (below_step (mB HB.out) hb); have GE285 := GW285; clear hb hbox hg) | ((with_reducible refine gate_dst (N := 4) rfl ?_); refine box_event ?hg (N := 4) ?hd (cs := #[.string (⟨#[]⟩ : ByteArray), .int .i64 0, .int .i64 0, .string (⟨#[]⟩ : ByteArray)]) (t := 52) ?hr ?_; (case hd => rfl); (case hg => rfl); (case hr => first | (go_simp; done) | (go_simp; rfl)); intro gb286 hg w4 hbox hb; have BK286 := zM (hbox); have GW286 := zM ((by rw [hg]; exact (below_size mZ) : w.heap.size ≤ gb286)); replace HB := zM (below_step mZ hb); have GE286 := GW286; have NB285_286 := zL BK285 hg; have NB286_285 := zG BK285 hg; replace BK285 := zK BK285 hb; clear hb hbox hg; have hnb5 := NB285_286.out; have hnc5 := NB286_285.out; obtain ⟨hcz6_0, hcz6_1, hcz6_2, hfz6_0, hfz6_1, hfz6_2⟩ := cells_3 BK285.out))
 try simp only [Act.put, List.setIfInBounds_toArray, List.set_cons_zero, List.set_cons_succ]
 go_loopg [10] k (fun kq v10 w' => ∃ (x10_1 : Int) (x287000_1 : ByteArray) (x287001_1 : Int) (x287002_1 : Int) (x287003_1 : ByteArray), v10 = .int .i64 x10_1 ∧ Aside0 (row_Cell.l0 kq a1 l0_2 (l0_2.length : Int) x10_1 = some (r1, r2, r3, r4)) ∧ Aside0 (kq ≤ k) ∧ Aside0 (w'.heap[gb285]? = some (.cells #[.int .i64 a0_0, .int .i64 a0_1, (.slice A0_2 l0_2.length c0_2)] 36 (0, 0))) ∧ Aside0 (w'.heap[gb286]? = some (.cells #[.string x287000_1, .int .i64 x287001_1, .int .i64 x287002_1, .string x287003_1] 52 (0, 0))) ∧ Aside0 (Below w.heap.size w w'))
 case atStart => exact ⟨(0), ((⟨#[]⟩ : ByteArray)), (0), (0), ((⟨#[]⟩ : ByteArray)), ya, H', ⟨Nat.le_refl _⟩, ⟨mK BK285.out⟩, ⟨mK BK286.out⟩, ⟨mZ⟩⟩
 case round =>
  clear H'
  try clear hcz6_0
  try clear hcz6_1
  try clear hcz6_2
  try clear hfz6_0
  try clear hfz6_1
  try clear hfz6_2
  try clear BK285
  try clear BK286
  obtain ⟨x10_1, x287000_1, x287001_1, x287002_1, x287003_1, rfl, HA, HK1, BK285, BK286, HB⟩ := hrel
  cases gk with
  | zero => exact absurd HA.out (by simp [row_Cell.l0])
  | succ k1 =>
   have H := HA.out
   clear HA
   simp only [row_Cell.l0] at H
   by_cases c7 : x10_1 < (l0_2.length : Int)
   ·rw [if_pos c7] at H
    have c7b0 : decide (x10_1 < (l0_2.length : Int)) = true := decide_eq_true c7
    clear c7
    by_cases c8 : 0 ≤ x10_1
    ·rw [if_pos c8] at H
     have c8b0 : decide (0 ≤ x10_1) = true := decide_eq_true c8
     clear c8
     by_cases c9 : x10_1 < (l0_2.length : Int)
     ·rw [if_pos c9] at H
      have c9b0 : decide (x10_1 < (l0_2.length : Int)) = true := decide_eq_true c9
      clear c9
      by_cases c10 : ((rd_T52 l0_2 x10_1).f0).toList = a1.toList
      ·rw [if_pos c10] at H
       have c10b0 : (((rd_T52 l0_2 x10_1).f0).toList == a1.toList) = true := beq_iff_eq.mpr c10
       have c10b1 : (((rd_T52 l0_2 x10_1).f0).toList != a1.toList) = false := bne_eq_false_iff_eq.mpr c10
       clear c10
       simp only [Option.some.injEq, Prod.mk.injEq] at H
       obtain ⟨rfl, rfl, rfl, rfl⟩ := H
       have p287 : 0 ≤ (x10_1 : Int) := zA
       have q287 : x10_1 < (l0_2.length : Int) := zA
       obtain ⟨ad287, e287, hx287_0, hx287_1, hx287_2, hx287_3⟩ := at_T52 HR0_2.out x10_1 p287 q287
       cases e287
       replace hx287_0 := zH HB hx287_0
       replace hx287_1 := zH HB hx287_1
       replace hx287_2 := zH HB hx287_2
       replace hx287_3 := zH HB hx287_3
       replace p287 := eq_true p287
       replace q287 := eq_true q287
       go_wp2_with (first | ((with_reducible refine gate_dst (N := 6) rfl ?_); refine box_event ?hg (N := 6) ?hd (cs := #[.string (⟨#[]⟩ : ByteArray), .int .i64 0, .int .i64 0, .string (⟨#[]⟩ : ByteArray)]) (t := 52) ?hr ?_; (case hd => rfl); (case hg => rfl); (case hr => first | (go_simp; done) | (go_simp; rfl)); intro gb288 hg w11 hbox hb; have BK288 := zM (hbox); have GW288 := zM ((by rw [hg]; exact (below_size mZ) : w.heap.size ≤ gb288)); replace HB := zM (below_step mZ hb); have GE288 := GW288; have NB285_288 := zL BK285 hg; have NB288_285 := zG BK285 hg; replace BK285 := zK BK285 hb; have NB286_288 := zL BK286 hg; have NB288_286 := zG BK286 hg; replace BK286 := zK BK286 hb; clear hb hbox hg; have hnb12 := NB288_285.out; have hnc12 := NB285_288.out; have hnb13 := NB288_286.out; have hnc13 := NB286_288.out; obtain ⟨hcz14_0, hcz14_1, hcz14_2, hcz14_3, hfz14_0, hfz14_1, hfz14_2, hfz14_3⟩ := cells_4 BK288.out; have hnb15 := NB286_285.out; have hnc15 := NB285_286.out; obtain ⟨hcz16_0, hcz16_1, hcz16_2, hcz16_3, hfz16_0, hfz16_1, hfz16_2, hfz16_3⟩ := cells_4 BK286.out))
       refine bodyPost_ret (results_cell_row rfl _ _ gb286 52 #[.string ((rd_T52 l0_2 x10_1).f0), .int .i64 ((rd_T52 l0_2 x10_1).f1), .int .i64 ((rd_T52 l0_2 x10_1).f2), .string ((rd_T52 l0_2 x10_1).f3)] (0, 0) _ rfl (by (with_reducible repeat (first | refine blk_drewN ?_ _ | refine blk_drew ?_ | refine blk_alloc ?_ _)); apply puts_4; refine blk_far ?_ NB286_288.out _; refine blk_far ?_ NB286_288.out _; refine blk_far ?_ NB286_288.out _; refine blk_far ?_ NB286_288.out _; (with_reducible repeat (first | refine blk_drewN ?_ _ | refine blk_drew ?_ | refine blk_alloc ?_ _)); exact BK286.out) Try.underlying52 rfl (by kernel_rfl)) rfl ?_
       exact ⟨by first | rfl | (simp [errW_none, errW_some] <;> rfl) | (simp [*, errW_none, errW_some] <;> rfl), mZ⟩
      rw [if_neg c10] at H
      have c10b0 : (((rd_T52 l0_2 x10_1).f0).toList == a1.toList) = false := beq_eq_false_iff_ne.mpr c10
      have c10b1 : (((rd_T52 l0_2 x10_1).f0).toList != a1.toList) = true := bne_iff_ne.mpr c10
      have H' := Aside0.mk H
      clear H
      have p287 : 0 ≤ (x10_1 : Int) := zA
      have q287 : x10_1 < (l0_2.length : Int) := zA
      obtain ⟨ad287, e287, hx287_0, hx287_1, hx287_2, hx287_3⟩ := at_T52 HR0_2.out x10_1 p287 q287
      cases e287
      replace hx287_0 := zH HB hx287_0
      replace hx287_1 := zH HB hx287_1
      replace hx287_2 := zH HB hx287_2
      replace hx287_3 := zH HB hx287_3
      replace p287 := eq_true p287
      replace q287 := eq_true q287
      go_wp2_with (first | ((with_reducible refine gate_dst (N := 6) rfl ?_); refine box_event ?hg (N := 6) ?hd (cs := #[.string (⟨#[]⟩ : ByteArray), .int .i64 0, .int .i64 0, .string (⟨#[]⟩ : ByteArray)]) (t := 52) ?hr ?_; (case hd => rfl); (case hg => rfl); (case hr => first | (go_simp; done) | (go_simp; rfl)); intro gb288 hg w17 hbox hb; have BK288 := zM (hbox); have GW288 := zM ((by rw [hg]; exact (below_size mZ) : w.heap.size ≤ gb288)); replace HB := zM (below_step mZ hb); have GE288 := GW288; have NB285_288 := zL BK285 hg; have NB288_285 := zG BK285 hg; replace BK285 := zK BK285 hb; have NB286_288 := zL BK286 hg; have NB288_286 := zG BK286 hg; replace BK286 := zK BK286 hb; clear hb hbox hg; have hnb18 := NB288_285.out; have hnc18 := NB285_288.out; have hnb19 := NB288_286.out; have hnc19 := NB286_288.out; obtain ⟨hcz20_0, hcz20_1, hcz20_2, hcz20_3, hfz20_0, hfz20_1, hfz20_2, hfz20_3⟩ := cells_4 BK288.out))
      go_roundg k1
      case measure => have := HK1.out; omega
      case rel => exact ⟨(wrap64 (x10_1 + 1)), (x287000_1), (x287001_1), (x287002_1), (x287003_1), ya, H', ⟨by have := HK1.out; omega⟩, ⟨by (with_reducible repeat (first | refine blk_drewN ?_ _ | refine blk_drew ?_ | refine blk_alloc ?_ _)); refine blk_far ?_ NB285_288.out _; refine blk_far ?_ NB285_288.out _; refine blk_far ?_ NB285_288.out _; refine blk_far ?_ NB285_288.out _; (with_reducible repeat (first | refine blk_drewN ?_ _ | refine blk_drew ?_ | refine blk_alloc ?_ _)); exact BK285.out⟩, ⟨by (with_reducible repeat (first | refine blk_drewN ?_ _ | refine blk_drew ?_ | refine blk_alloc ?_ _)); refine blk_far ?_ NB286_288.out _; refine blk_far ?_ NB286_288.out _; refine blk_far ?_ NB286_288.out _; refine blk_far ?_ NB286_288.out _; (with_reducible repeat (first | refine blk_drewN ?_ _ | refine blk_drew ?_ | refine blk_alloc ?_ _)); exact BK286.out⟩, ⟨mZ⟩⟩
     rw [if_neg c9] at H
     exact absurd H (by simp)
    rw [if_neg c8] at H
    exact absurd H (by simp)
   rw [if_neg c7] at H
   have c7b0 : decide (x10_1 < (l0_2.length : Int)) = false := decide_eq_false c7
   clear c7
   simp only [Option.some.injEq, Prod.mk.injEq] at H
   obtain ⟨rfl, rfl, rfl, rfl⟩ := H
   have hnb21 := NB286_285.out
   have hnc21 := NB285_286.out
   obtain ⟨hcz22_0, hcz22_1, hcz22_2, hcz22_3, hfz22_0, hfz22_1, hfz22_2, hfz22_3⟩ := cells_4 BK286.out
   go_wp2
   refine bodyPost_ret (results_cell_row rfl _ _ gb286 52 #[.string (⟨#[]⟩ : ByteArray), .int .i64 0, .int .i64 0, .string (⟨#[]⟩ : ByteArray)] (0, 0) _ rfl (by (with_reducible repeat (first | refine blk_drewN ?_ _ | refine blk_drew ?_ | refine blk_alloc ?_ _)); apply puts_4; (with_reducible repeat (first | refine blk_drewN ?_ _ | refine blk_drew ?_ | refine blk_alloc ?_ _)); exact BK286.out) Try.underlying52 rfl (by kernel_rfl)) rfl ?_
   exact ⟨by first | rfl | (simp [errW_none, errW_some] <;> rfl) | (simp [*, errW_none, errW_some] <;> rfl), mZ⟩

end Go.Proofs.Ytalpcnomfebdiaa.QPredRules
