-- Written by a program of this session (wip/myprint.py): the machine's side of a law
import Derived.Test.YtalpcnomfebdiaaQPredLimitsx0
import Derived.Test.YtalpcnomfebdiaaQPredLimitsx1
import Derived.Test.YtalpcnomfebdiaaQPredLimitsx4
import Derived.Test.YtalpcnomfebdiaaQPredLimitsx9
import Derived.Test.YtalpcnomfebdiaaQPredLimitsx10
import Derived.Test.YtalpcnomfebdiaaQPredLimitsx11
import Derived.Test.YtalpcnomfebdiaaQPredLimitsx12
namespace Go.Proofs.Ytalpcnomfebdiaa.QPredLimits
open Go.RowKit Go.Proofs.YtalpcnomfebdiaaW.PrintWords Go.Proofs.YtalpcnomfebdiaaW.PrintLast Go.Proofs.YtalpcnomfebdiaaW.PrintMore
attribute [local go_sem] max2_int min2_int max_two min_two max_three min_three max_four min_four   -- for this text's walks alone
set_option linter.unusedVariables false
set_option linter.unusedSimpArgs false

/-! ### pred_Encode: function 19 -/
def pred_Encode.f (k : Nat) (a0_0 : Int) (a0_1 : ByteArray) (a0_2 : Int) (a0_3 : Int) (a0_4 : ByteArray) (l0_5 : List ByteArray) (l0_6 : List (S25)) : Option (List Int × Int) := (pred_Right.f k a0_0 a0_1 a0_2 a0_3 a0_4 l0_5 l0_6).bind fun t437 => (if t437 = true then ((pred_put.f k ([] : List Int) a0_0 a0_1 a0_2 a0_3 a0_4 l0_5 l0_6).bind fun t438 => (some (t438, 0))) else (some (([] : List Int), 12)))
theorem pred_Encode.mono : ∀ a0 a1 a2 a3 a4 a5 a6 k, LeO (pred_Encode.f k a0 a1 a2 a3 a4 a5 a6) (pred_Encode.f (k + 1) a0 a1 a2 a3 a4 a5 a6) := by
 intro a0 a1 a2 a3 a4 a5 a6 k
 unfold pred_Encode.f
 repeat' first
   | (with_reducible exact pred_Right.mono _ _ _ _ _ _ _ _)
   | (with_reducible exact pred_put.mono _ _ _ _ _ _ _ _ _)
   | (with_reducible exact LeO.refl _)
   | (with_reducible exact LeO.none _)
   | (with_reducible refine LeO.ite ?_ ?_)
   | (with_reducible refine LeO.bind ?_ (fun _ => ?_))
   | exact pred_Right.mono _ _ _ _ _ _ _ _
   | exact pred_put.mono _ _ _ _ _ _ _ _ _
   | exact LeO.none _
   | refine LeO.ite ?_ ?_
   | refine LeO.bind ?_ (fun _ => ?_)
set_option maxHeartbeats 8000000 in
set_option maxRecDepth 100000 in
theorem pred_Encode.calls (k : Nat) (a0_0 : Int) (a0_1 : ByteArray) (a0_2 : Int) (a0_3 : Int) (a0_4 : ByteArray) (A0_5 : Option Addr) (c0_5 : Nat) (l0_5 : List ByteArray) (A0_6 : Option Addr) (c0_6 : Nat) (l0_6 : List (S25)) (r1 : List Int) (r2 : Int) (w : World) (hr0_5 : Kd.C Kd.string w A0_5 l0_5.length l0_5) (hc0_5 : l0_5.length ≤ c0_5) (hr0_6 : Kd.C k25 w A0_6 l0_6.length l0_6) (hc0_6 : l0_6.length ≤ c0_6) (h : pred_Encode.f k a0_0 a0_1 a0_2 a0_3 a0_4 l0_5 l0_6 = some (r1, r2)) :
  Calls Try.prog 19 #[.agg #[.int .i64 a0_0, .string a0_1, .int .i64 a0_2, .int .i64 a0_3, .string a0_4, .slice A0_5 l0_5.length c0_5, .slice A0_6 l0_6.length c0_6]] w fun e w' => ∃ v0_ : Value, e = .returned (.tuple #[v0_, .int .i64 r2]) ∧ Kd.R (Kd.int .u8) 5 w' w.heap.size (fun _ => True) v0_ r1 ∧ Below w.heap.size w w' := by
 have hu25 := Try.underlying25
 have HR0_5 := Aside0.mk hr0_5
 have HC0_5 := Aside0.mk hc0_5
 clear hr0_5 hc0_5
 have HR0_6 := Aside0.mk hr0_6
 have HC0_6 := Aside0.mk hc0_6
 clear hr0_6 hc0_6
 have HB := Aside0.mk (Below.refl w.heap.size w)
 have H : ((pred_Right.f k a0_0 a0_1 a0_2 a0_3 a0_4 l0_5 l0_6).bind fun t437 => (if t437 = true then ((pred_put.f k ([] : List Int) a0_0 a0_1 a0_2 a0_3 a0_4 l0_5 l0_6).bind fun t438 => (some (t438, 0))) else (some (([] : List Int), 12)))) = some (r1, r2) := h
 clear h
 replace H := Option.bind_eq_some_iff.mp H
 obtain ⟨t437, A20, H⟩ := H
 replace H : (if t437 = true then ((pred_put.f k ([] : List Int) a0_0 a0_1 a0_2 a0_3 a0_4 l0_5 l0_6).bind fun t438 => (some (t438, 0))) else (some (([] : List Int), 12))) = some (r1, r2) := H
 have A2 := Aside0.mk A20
 clear A20
 by_cases c3 : t437 = true
 ·subst c3
  have H1 : ((pred_put.f k ([] : List Int) a0_0 a0_1 a0_2 a0_3 a0_4 l0_5 l0_6).bind fun t438 => (some (t438, 0))) = some (r1, r2) := by rw [if_pos rfl] at H; exact H
  clear H
  have H := H1
  clear H1
  replace H := Option.bind_eq_some_iff.mp H
  obtain ⟨t438, A40, H⟩ := H
  replace H : (some (t438, 0)) = some (r1, r2) := H
  have A4 := Aside0.mk A40
  clear A40
  simp only [Option.some.injEq, Prod.mk.injEq] at H
  obtain ⟨rfl, rfl⟩ := H
  go_enter Try.func19, Try.ntmps19
  go_wp2_with (first | ((with_reducible refine gate_dst (N := 1) rfl ?_); refine box_event ?hg (N := 1) ?hd (cs := #[.int .i64 a0_0, .string a0_1, .int .i64 a0_2, .int .i64 a0_3, .string a0_4, .slice A0_5 l0_5.length c0_5, .slice A0_6 l0_6.length c0_6]) (t := 25) ?hr ?_; (case hd => rfl); (case hg => rfl); (case hr => first | (go_simp; done) | (go_simp; rfl)); intro gb436 hg w5 hbox hb; have n0_ := Aside0.mk (below_step (mB HB.out) hb); have n1_ := Aside0.mk (hbox); have n2_ := Aside0.mk ((by rw [hg]; exact (below_size (mB HB.out)) : w.heap.size ≤ gb436)); have n3_ := n2_; clear HB; have HB := n0_; have BK436 := n1_; have GW436 := n2_; have GE436 := n3_; clear n0_ n1_ n2_ n3_; clear hb hbox hg; obtain ⟨hcz6_0, hcz6_1, hcz6_2, hcz6_3, hcz6_4, hcz6_5, hcz6_6, hfz6_0, hfz6_1, hfz6_2, hfz6_3, hfz6_4, hfz6_5, hfz6_6⟩ := cells_7 BK436.out) | ((with_reducible refine gate_callee (f := 8) rfl ?_); refine goesL_ (some 5) rfl rfl Try.func8 (by kernel_rfl) rfl #[.agg #[.int .i64 a0_0, .string a0_1, .int .i64 a0_2, .int .i64 a0_3, .string a0_4, .slice A0_5 l0_5.length c0_5, .slice A0_6 l0_6.length c0_6]] rfl (by (try simp only [List.map_toArray, List.map_cons, List.map_nil]); first | done | rfl | (simp only [List.length_drop, List.length_take]; rfl)) ?_; (with_reducible refine (pred_Right.calls k a0_0 a0_1 a0_2 a0_3 a0_4 _ _ l0_5 _ _ l0_6 true _ ?side1 ?side2 ?side3 ?side4 A2.out).mono ?_); (case side1 => repeat (first | exact (Kd.C_below HR0_5.out HB.out) | (with_reducible refine Kd.C_alloc ?_ _) | (with_reducible refine Kd.C_drewN ?_ _) | (with_reducible refine Kd.C_drew ?_))); (case side2 => first | exact HC0_5.out | exact Kd.V_mono HC0_5.out (fun k_ hk_ => by grind)); (case side3 => repeat (first | exact (Kd.C_below HR0_6.out HB.out) | (with_reducible refine Kd.C_alloc ?_ _) | (with_reducible refine Kd.C_drewN ?_ _) | (with_reducible refine Kd.C_drew ?_))); (case side4 => first | exact HC0_6.out | exact Kd.V_mono HC0_6.out (fun k_ hk_ => by grind)); rintro e w7 ⟨rfl, hb⟩; refine ⟨_, rfl, ?_⟩; have n0_ := Aside0.mk (blk_below (mK BK436.out) hb); have n1_ := Aside0.mk (below_step mZ hb); clear BK436; clear HB; have BK436 := n0_; have HB := n1_; clear n0_ n1_; (try clear hb); (try clear hb2); (try clear hk); (try clear hi); obtain ⟨hcz8_0, hcz8_1, hcz8_2, hcz8_3, hcz8_4, hcz8_5, hcz8_6, hfz8_0, hfz8_1, hfz8_2, hfz8_3, hfz8_4, hfz8_5, hfz8_6⟩ := cells_7 BK436.out) | ((with_reducible refine gate_callee (f := 35) rfl ?_); refine goesL_ (some 8) rfl rfl Try.func35 (by kernel_rfl) rfl #[.slice none 0 0, .agg #[.int .i64 a0_0, .string a0_1, .int .i64 a0_2, .int .i64 a0_3, .string a0_4, .slice A0_5 l0_5.length c0_5, .slice A0_6 l0_6.length c0_6]] rfl (by (try simp only [List.map_toArray, List.map_cons, List.map_nil]); first | done | rfl | (simp only [List.length_drop, List.length_take]; rfl)) ?_; (refine (pred_put.calls k _ _ ([] : List Int) a0_0 a0_1 a0_2 a0_3 a0_4 _ _ l0_5 _ _ l0_6 t438 _ ?side1 ?side2 ?side3 ?side4 ?side5 ?side6 A4.out).mono ?_); (case side1 => exact Kd.C_nil _ _); (case side2 => exact Nat.le_refl _); (case side3 => repeat (first | exact (Kd.C_below HR0_5.out HB.out) | (with_reducible refine Kd.C_alloc ?_ _) | (with_reducible refine Kd.C_drewN ?_ _) | (with_reducible refine Kd.C_drew ?_))); (case side4 => first | exact HC0_5.out | exact Kd.V_mono HC0_5.out (fun k_ hk_ => by grind)); (case side5 => repeat (first | exact (Kd.C_below HR0_6.out HB.out) | (with_reducible refine Kd.C_alloc ?_ _) | (with_reducible refine Kd.C_drewN ?_ _) | (with_reducible refine Kd.C_drew ?_))); (case side6 => first | exact HC0_6.out | exact Kd.V_mono HC0_6.out (fun k_ hk_ => by grind)); rintro e w9 ⟨v439, rfl, ho0, hb⟩; refine ⟨_, rfl, ?_⟩; have n0_ := Aside0.mk (Kd.R_lower ho0 (below_size mZ)); have n1_ := Aside0.mk (blk_below (mK BK436.out) hb); have n2_ := Aside0.mk (below_step mZ hb); clear BK436; clear HB; have HO440 := n0_; have BK436 := n1_; have HB := n2_; clear n0_ n1_ n2_; (try clear hb); (try clear hb2); (try clear hk); (try clear hi); (try clear ho0)))
  go_ret2
  exact ⟨_, by first | rfl | (simp [errW_none, errW_some] <;> rfl) | (simp [*, errW_none, errW_some] <;> rfl), mR HO440.out, mZ⟩
 ·replace c3 := Bool.eq_false_iff.mpr c3
  subst c3
  have H1 : (some (([] : List Int), 12)) = some (r1, r2) := by rw [if_neg (show ¬ (false = true) by decide)] at H; exact H
  clear H
  have H := H1
  clear H1
  simp only [Option.some.injEq, Prod.mk.injEq] at H
  obtain ⟨rfl, rfl⟩ := H
  go_enter Try.func19, Try.ntmps19
  go_wp2_with (first | ((with_reducible refine gate_dst (N := 1) rfl ?_); refine box_event ?hg (N := 1) ?hd (cs := #[.int .i64 a0_0, .string a0_1, .int .i64 a0_2, .int .i64 a0_3, .string a0_4, .slice A0_5 l0_5.length c0_5, .slice A0_6 l0_6.length c0_6]) (t := 25) ?hr ?_; (case hd => rfl); (case hg => rfl); (case hr => first | (go_simp; done) | (go_simp; rfl)); intro gb436 hg w10 hbox hb; have n0_ := Aside0.mk (below_step (mB HB.out) hb); have n1_ := Aside0.mk (hbox); have n2_ := Aside0.mk ((by rw [hg]; exact (below_size (mB HB.out)) : w.heap.size ≤ gb436)); have n3_ := n2_; clear HB; have HB := n0_; have BK436 := n1_; have GW436 := n2_; have GE436 := n3_; clear n0_ n1_ n2_ n3_; clear hb hbox hg; obtain ⟨hcz11_0, hcz11_1, hcz11_2, hcz11_3, hcz11_4, hcz11_5, hcz11_6, hfz11_0, hfz11_1, hfz11_2, hfz11_3, hfz11_4, hfz11_5, hfz11_6⟩ := cells_7 BK436.out) | ((with_reducible refine gate_callee (f := 8) rfl ?_); refine goesL_ (some 5) rfl rfl Try.func8 (by kernel_rfl) rfl #[.agg #[.int .i64 a0_0, .string a0_1, .int .i64 a0_2, .int .i64 a0_3, .string a0_4, .slice A0_5 l0_5.length c0_5, .slice A0_6 l0_6.length c0_6]] rfl (by (try simp only [List.map_toArray, List.map_cons, List.map_nil]); first | done | rfl | (simp only [List.length_drop, List.length_take]; rfl)) ?_; (with_reducible refine (pred_Right.calls k a0_0 a0_1 a0_2 a0_3 a0_4 _ _ l0_5 _ _ l0_6 false _ ?side1 ?side2 ?side3 ?side4 A2.out).mono ?_); (case side1 => repeat (first | exact (Kd.C_below HR0_5.out HB.out) | (with_reducible refine Kd.C_alloc ?_ _) | (with_reducible refine Kd.C_drewN ?_ _) | (with_reducible refine Kd.C_drew ?_))); (case side2 => first | exact HC0_5.out | exact Kd.V_mono HC0_5.out (fun k_ hk_ => by grind)); (case side3 => repeat (first | exact (Kd.C_below HR0_6.out HB.out) | (with_reducible refine Kd.C_alloc ?_ _) | (with_reducible refine Kd.C_drewN ?_ _) | (with_reducible refine Kd.C_drew ?_))); (case side4 => first | exact HC0_6.out | exact Kd.V_mono HC0_6.out (fun k_ hk_ => by grind)); rintro e w12 ⟨rfl, hb⟩; refine ⟨_, rfl, ?_⟩; have n0_ := Aside0.mk (blk_below (mK BK436.out) hb); have n1_ := Aside0.mk (below_step mZ hb); clear BK436; clear HB; have BK436 := n0_; have HB := n1_; clear n0_ n1_; (try clear hb); (try clear hb2); (try clear hk); (try clear hi)))
  go_ret2
  exact ⟨_, by first | rfl | (simp [errW_none, errW_some] <;> rfl) | (simp [*, errW_none, errW_some] <;> rfl), by first | exact Kd.R_nil _ _ _ _ _ | exact Kd.N_nil _ _ _ _ _ | exact Kd.V_nil _ _ _ _ _ | exact Kd.Q_nil _ _ _ _ _ | exact Kd.S_nil _ _ _ _ _, mZ⟩

/-! ### columbariumlaw13_PredLimits: function 5 -/
def columbariumlaw13_PredLimits.l0 : Nat → Int → Int → Int → Int → ByteArray → Int → Int → ByteArray → List ByteArray → List (S25) → Int → ByteArray → Int → Int → ByteArray → List (S25) → Option (Bool)
 | 0, _, _, _, _, _, _, _, _, _, _, _, _, _, _, _, _ => none
 | k + 1, x0, x1, x7, x466000, x466001, x466002, x466003, x466004, x466005, x466006, x467000, x467001, x467002, x467003, x467004, x467006 => if x7 < x1 then ((columbariumlaw13_null.f (⟨#[120]⟩ : ByteArray)).bind fun bt467 => (if x467006.length < 1353245080339 then (columbariumlaw13_PredLimits.l0 k x0 x1 (wrap64 (x7 + 1)) x466000 x466001 x466002 x466003 x466004 x466005 x466006 x467000 x467001 x467002 x467003 x467004 (x467006 ++ [(⟨bt467.1, bt467.2.1, bt467.2.2.1, bt467.2.2.2.1, bt467.2.2.2.2.1, bt467.2.2.2.2.2.1, bt467.2.2.2.2.2.2⟩ : S25)])) else (none))) else ((pred_Encode.f k x466000 x466001 x466002 x466003 x466004 x466005 x466006).bind fun bt481 => ((pred_Encode.f k x467000 x467001 x467002 x467003 x467004 ([] : List ByteArray) x467006).bind fun bt485 => ((pred_Right.f k x466000 x466001 x466002 x466003 x466004 x466005 x466006).bind fun t489 => (if (t489 == (decide ((wrap64 (x0 + 1)) ≤ 6))) = true then (if ((bt481.2 == 0) == (decide ((wrap64 (x0 + 1)) ≤ 6))) = true then ((pred_Right.f k x467000 x467001 x467002 x467003 x467004 ([] : List ByteArray) x467006).bind fun t490 => (if (t490 == (decide ((wrap64 (x1 + 1)) ≤ 40))) = true then (if ((bt485.2 == 0) == (decide ((wrap64 (x1 + 1)) ≤ 40))) = true then ((pred_Size.f k x466000 x466001 x466002 x466003 x466004 x466005 x466006).bind fun t491 => (if t491 = (wrap64 (x0 + 1)) then ((pred_Size.f k x467000 x467001 x467002 x467003 x467004 ([] : List ByteArray) x467006).bind fun t492 => (if t492 = (wrap64 (x1 + 1)) then ((columbariumlaw13_known.f k).bind fun t493 => (some t493)) else (some false))) else (some false))) else (some false)) else (some false))) else (some false)) else (some false)))))
def columbariumlaw13_PredLimits.f (k : Nat) (a0 : Int) (a1 : Int) : Option (Bool) := (columbariumbook_Within.f a0 0 10).bind fun t441 => ((columbariumbook_Within.f a1 0 50).bind fun t442 => ((columbariumlaw13_null.f (⟨#[120]⟩ : ByteArray)).bind fun bt443 => ((columbariumlaw13_nots.f k bt443.1 bt443.2.1 bt443.2.2.1 bt443.2.2.2.1 bt443.2.2.2.2.1 bt443.2.2.2.2.2.1 bt443.2.2.2.2.2.2 t441).bind fun bt454 => (columbariumlaw13_PredLimits.l0 k t441 t442 0 bt454.1 bt454.2.1 bt454.2.2.1 bt454.2.2.2.1 bt454.2.2.2.2.1 bt454.2.2.2.2.2.1 bt454.2.2.2.2.2.2 2 (⟨#[]⟩ : ByteArray) 0 0 (⟨#[]⟩ : ByteArray) ([] : List (S25))))))
theorem columbariumlaw13_PredLimits.mono_l : ∀ k, (∀ y0 y1 y2 y3 y4 y5 y6 y7 y8 y9 y10 y11 y12 y13 y14 y15, LeO (columbariumlaw13_PredLimits.l0 k y0 y1 y2 y3 y4 y5 y6 y7 y8 y9 y10 y11 y12 y13 y14 y15) (columbariumlaw13_PredLimits.l0 (k + 1) y0 y1 y2 y3 y4 y5 y6 y7 y8 y9 y10 y11 y12 y13 y14 y15))
 | 0 => fun _ _ _ _ _ _ _ _ _ _ _ _ _ _ _ _ r h => by simp [columbariumlaw13_PredLimits.l0] at h
 | k + 1 => by
  have ih0 := columbariumlaw13_PredLimits.mono_l k
  ·intro y0 y1 y2 y3 y4 y5 y6 y7 y8 y9 y10 y11 y12 y13 y14 y15
   unfold columbariumlaw13_PredLimits.l0
   repeat' first
   | (with_reducible exact ih0 _ _ _ _ _ _ _ _ _ _ _ _ _ _ _ _)
   | (with_reducible exact columbariumlaw13_known.mono _)
   | (with_reducible exact columbariumlaw13_nots.mono _ _ _ _ _ _ _ _ _)
   | (with_reducible exact pred_Encode.mono _ _ _ _ _ _ _ _)
   | (with_reducible exact pred_Right.mono _ _ _ _ _ _ _ _)
   | (with_reducible exact pred_Size.mono _ _ _ _ _ _ _ _)
   | (with_reducible exact LeO.refl _)
   | (with_reducible exact LeO.none _)
   | (with_reducible refine LeO.ite ?_ ?_)
   | (with_reducible refine LeO.bind ?_ (fun _ => ?_))
   | exact ih0 _ _ _ _ _ _ _ _ _ _ _ _ _ _ _ _
   | exact columbariumlaw13_known.mono _
   | exact columbariumlaw13_nots.mono _ _ _ _ _ _ _ _ _
   | exact pred_Encode.mono _ _ _ _ _ _ _ _
   | exact pred_Right.mono _ _ _ _ _ _ _ _
   | exact pred_Size.mono _ _ _ _ _ _ _ _
   | exact LeO.none _
   | refine LeO.ite ?_ ?_
   | refine LeO.bind ?_ (fun _ => ?_)
theorem columbariumlaw13_PredLimits.mono : ∀ a0 a1 k, LeO (columbariumlaw13_PredLimits.f k a0 a1) (columbariumlaw13_PredLimits.f (k + 1) a0 a1) := by
 intro a0 a1 k
 have ih0 := columbariumlaw13_PredLimits.mono_l k
 unfold columbariumlaw13_PredLimits.f
 repeat' first
   | (with_reducible exact ih0 _ _ _ _ _ _ _ _ _ _ _ _ _ _ _ _)
   | (with_reducible exact columbariumlaw13_known.mono _)
   | (with_reducible exact columbariumlaw13_nots.mono _ _ _ _ _ _ _ _ _)
   | (with_reducible exact pred_Encode.mono _ _ _ _ _ _ _ _)
   | (with_reducible exact pred_Right.mono _ _ _ _ _ _ _ _)
   | (with_reducible exact pred_Size.mono _ _ _ _ _ _ _ _)
   | (with_reducible exact LeO.refl _)
   | (with_reducible exact LeO.none _)
   | (with_reducible refine LeO.ite ?_ ?_)
   | (with_reducible refine LeO.bind ?_ (fun _ => ?_))
   | exact ih0 _ _ _ _ _ _ _ _ _ _ _ _ _ _ _ _
   | exact columbariumlaw13_known.mono _
   | exact columbariumlaw13_nots.mono _ _ _ _ _ _ _ _ _
   | exact pred_Encode.mono _ _ _ _ _ _ _ _
   | exact pred_Right.mono _ _ _ _ _ _ _ _
   | exact pred_Size.mono _ _ _ _ _ _ _ _
   | exact LeO.none _
   | refine LeO.ite ?_ ?_
   | refine LeO.bind ?_ (fun _ => ?_)
set_option maxHeartbeats 8000000 in
set_option maxRecDepth 100000 in
theorem columbariumlaw13_PredLimits.calls (k : Nat) (a0 : Int) (a1 : Int) (r : Bool) (w : World) (hrt_ : Aside0 (r = true)) (h : columbariumlaw13_PredLimits.f k a0 a1 = some r) :
  Calls Try.prog 5 #[.int .i64 a0, .int .i64 a1] w fun e w' => e = .returned (.bool r) ∧ Below w.heap.size w w' := by
 have hu25 := Try.underlying25
 have HB := Aside0.mk (Below.refl w.heap.size w)
 have H : ((columbariumbook_Within.f a0 0 10).bind fun t441 => ((columbariumbook_Within.f a1 0 50).bind fun t442 => ((columbariumlaw13_null.f (⟨#[120]⟩ : ByteArray)).bind fun bt443 => ((columbariumlaw13_nots.f k bt443.1 bt443.2.1 bt443.2.2.1 bt443.2.2.2.1 bt443.2.2.2.2.1 bt443.2.2.2.2.2.1 bt443.2.2.2.2.2.2 t441).bind fun bt454 => (columbariumlaw13_PredLimits.l0 k t441 t442 0 bt454.1 bt454.2.1 bt454.2.2.1 bt454.2.2.2.1 bt454.2.2.2.2.1 bt454.2.2.2.2.2.1 bt454.2.2.2.2.2.2 2 (⟨#[]⟩ : ByteArray) 0 0 (⟨#[]⟩ : ByteArray) ([] : List (S25))))))) = some r := h
 clear h
 replace H := Option.bind_eq_some_iff.mp H
 obtain ⟨t441, A30, H⟩ := H
 replace H : ((columbariumbook_Within.f a1 0 50).bind fun t442 => ((columbariumlaw13_null.f (⟨#[120]⟩ : ByteArray)).bind fun bt443 => ((columbariumlaw13_nots.f k bt443.1 bt443.2.1 bt443.2.2.1 bt443.2.2.2.1 bt443.2.2.2.2.1 bt443.2.2.2.2.2.1 bt443.2.2.2.2.2.2 t441).bind fun bt454 => (columbariumlaw13_PredLimits.l0 k t441 t442 0 bt454.1 bt454.2.1 bt454.2.2.1 bt454.2.2.2.1 bt454.2.2.2.2.1 bt454.2.2.2.2.2.1 bt454.2.2.2.2.2.2 2 (⟨#[]⟩ : ByteArray) 0 0 (⟨#[]⟩ : ByteArray) ([] : List (S25)))))) = some r := H
 have A3 := Aside0.mk A30
 clear A30
 replace H := Option.bind_eq_some_iff.mp H
 obtain ⟨t442, A40, H⟩ := H
 replace H : ((columbariumlaw13_null.f (⟨#[120]⟩ : ByteArray)).bind fun bt443 => ((columbariumlaw13_nots.f k bt443.1 bt443.2.1 bt443.2.2.1 bt443.2.2.2.1 bt443.2.2.2.2.1 bt443.2.2.2.2.2.1 bt443.2.2.2.2.2.2 t441).bind fun bt454 => (columbariumlaw13_PredLimits.l0 k t441 t442 0 bt454.1 bt454.2.1 bt454.2.2.1 bt454.2.2.2.1 bt454.2.2.2.2.1 bt454.2.2.2.2.2.1 bt454.2.2.2.2.2.2 2 (⟨#[]⟩ : ByteArray) 0 0 (⟨#[]⟩ : ByteArray) ([] : List (S25))))) = some r := H
 have A4 := Aside0.mk A40
 clear A40
 replace H := Option.bind_eq_some_iff.mp H
 obtain ⟨⟨t443, t444, t445, t446, t447, t448, t451⟩, A50, H⟩ := H
 replace H : ((columbariumlaw13_nots.f k t443 t444 t445 t446 t447 t448 t451 t441).bind fun bt454 => (columbariumlaw13_PredLimits.l0 k t441 t442 0 bt454.1 bt454.2.1 bt454.2.2.1 bt454.2.2.2.1 bt454.2.2.2.2.1 bt454.2.2.2.2.2.1 bt454.2.2.2.2.2.2 2 (⟨#[]⟩ : ByteArray) 0 0 (⟨#[]⟩ : ByteArray) ([] : List (S25)))) = some r := H
 have A5 := Aside0.mk A50
 clear A50
 replace H := Option.bind_eq_some_iff.mp H
 obtain ⟨⟨t454, t455, t456, t457, t458, t459, t462⟩, A60, H⟩ := H
 replace H : (columbariumlaw13_PredLimits.l0 k t441 t442 0 t454 t455 t456 t457 t458 t459 t462 2 (⟨#[]⟩ : ByteArray) 0 0 (⟨#[]⟩ : ByteArray) ([] : List (S25))) = some r := H
 have A6 := Aside0.mk A60
 clear A60
 have H' := Aside0.mk H
 clear H
 go_enter Try.func5, Try.ntmps5
 go_wp2_with (first | ((with_reducible refine gate_callee (f := 17) rfl ?_); refine goesL_ (some 13) rfl rfl Try.func17 (by kernel_rfl) rfl #[.int .i64 a0, .int .i64 0, .int .i64 10] rfl (by (try simp only [List.map_toArray, List.map_cons, List.map_nil]); first | done | rfl | (simp only [List.length_drop, List.length_take]; rfl)) ?_; (with_reducible refine (columbariumbook_Within.calls a0 0 10 t441 _ A3.out).mono ?_); rintro e w' ⟨rfl, ⟨nd, rfl⟩⟩; refine ⟨_, rfl, ?_⟩) | ((with_reducible refine gate_callee (f := 17) rfl ?_); refine goesL_ (some 15) rfl rfl Try.func17 (by kernel_rfl) rfl #[.int .i64 a1, .int .i64 0, .int .i64 50] rfl (by (try simp only [List.map_toArray, List.map_cons, List.map_nil]); first | done | rfl | (simp only [List.length_drop, List.length_take]; rfl)) ?_; (with_reducible refine (columbariumbook_Within.calls a1 0 50 t442 _ A4.out).mono ?_); rintro e w' ⟨rfl, ⟨nd, rfl⟩⟩; refine ⟨_, rfl, ?_⟩) | ((with_reducible refine gate_callee (f := 18) rfl ?_); refine goesL_ (some 16) rfl rfl Try.func18 (by kernel_rfl) rfl #[.string (⟨#[120]⟩ : ByteArray)] rfl (by (try simp only [List.map_toArray, List.map_cons, List.map_nil]); first | done | rfl | (simp only [List.length_drop, List.length_take]; rfl)) ?_; (with_reducible refine (columbariumlaw13_null.calls (⟨#[120]⟩ : ByteArray) t443 t444 t445 t446 t447 t448 t451 _ A5.out).mono ?_); rintro e w7 ⟨v449, v452, rfl, ho0, ho1, hb⟩; refine ⟨_, rfl, ?_⟩; have n0_ := Aside0.mk (Kd.R_lower ho0 (below_size (mB HB.out))); have n1_ := Aside0.mk (Kd.R_lower ho1 (below_size (mB HB.out))); have n2_ := Aside0.mk (below_step (mB HB.out) hb); clear HB; have HO450 := n0_; have HO453 := n1_; have HB := n2_; clear n0_ n1_ n2_; (try clear hb); (try clear hb2); (try clear hk); (try clear hi); (try clear ho0); (try clear ho1); obtain ⟨Ao8, co8, eo8⟩ := Kd.R_slice HO450.out; subst eo8; obtain ⟨Ao9, co9, eo9⟩ := Kd.R_slice HO453.out; subst eo9) | ((with_reducible refine gate_callee (f := 16) rfl ?_); refine goesL_ (some 18) rfl rfl Try.func16 (by kernel_rfl) rfl #[.agg #[.int .i64 t443, .string t444, .int .i64 t445, .int .i64 t446, .string t447, .slice Ao8 t448.length co8, .slice Ao9 t451.length co9], .int .i64 t441] rfl (by (try simp only [List.map_toArray, List.map_cons, List.map_nil]); first | done | rfl | (simp only [List.length_drop, List.length_take]; rfl)) ?_; (with_reducible refine (columbariumlaw13_nots.calls k t443 t444 t445 t446 t447 (fun k_ => some k_ = (.slice Ao8 t448.length co8 : Value).ownBlock) _ _ t448 (fun k_ => some k_ ≠ (.slice Ao8 t448.length co8 : Value).ownBlock) _ _ t451 t441 t454 t455 t456 t457 t458 t459 t462 _ ?side1 ?side2 A6.out).mono ?_); (case side1 => exact Kd.R_V (Kd.R_tight rfl (Kd.R_apart' (HO450.out) (Kd.R_typed HO453.out) (by decide)))); (case side2 => exact Kd.R_V (HO453.out)); rintro e w10 ⟨v460, v463, rfl, ho0, ho1, hb⟩; refine ⟨_, rfl, ?_⟩; have n0_ := Aside0.mk (Kd.R_below (mR HO450.out) hb); have n1_ := Aside0.mk (Kd.R_below (mR HO453.out) hb); have n2_ := Aside0.mk (Kd.V_lower (Kd.V_mono (ok' := fun k_ => True) ho0 (fun k_ hk_ => trivial)) (below_size (mB HB.out))); have n3_ := Aside0.mk (Kd.V_lower (Kd.V_mono (ok' := fun k_ => True) ho1 (fun k_ hk_ => trivial)) (below_size (mB HB.out))); have n4_ := Aside0.mk (below_step (mB HB.out) hb); clear HO450; clear HO453; clear HB; have HO450 := n0_; have HO453 := n1_; have HO461 := n2_; have HO464 := n3_; have HB := n4_; clear n0_ n1_ n2_ n3_ n4_; (try clear hb); (try clear hb2); (try clear hk); (try clear hi); (try clear ho0); (try clear ho1)) | ((with_reducible refine gate_dst (N := 5) rfl ?_); refine box_event ?hg (N := 5) ?hd (cs := #[.int .i64 0, .string (⟨#[]⟩ : ByteArray), .int .i64 0, .int .i64 0, .string (⟨#[]⟩ : ByteArray), .slice none 0 0, .slice none 0 0]) (t := 25) ?hr ?_; (case hd => rfl); (case hg => rfl); (case hr => first | (go_simp; done) | (go_simp; rfl)); intro gb465 hg w11 hbox hb; have n0_ := Aside0.mk (Kd.R_below (mR HO450.out) hb); have n1_ := Aside0.mk (Kd.R_below (Kd.R_elderB (mR HO453.out) gb465 (Nat.le_of_eq hg.symm)) hb); have n2_ := Aside0.mk (Kd.V_below (Kd.V_elderB (mV HO461.out) gb465 (Nat.le_of_eq hg.symm)) hb); have n3_ := Aside0.mk (Kd.V_below (Kd.V_elderB (mV HO464.out) gb465 (Nat.le_of_eq hg.symm)) hb); have n4_ := Aside0.mk (below_step (mB HB.out) hb); have n5_ := Aside0.mk (hbox); have n6_ := Aside0.mk ((by rw [hg]; exact (below_size (mB HB.out)) : w.heap.size ≤ gb465)); have n7_ := n6_; clear HO450; clear HO453; clear HO461; clear HO464; clear HB; have HO450 := n0_; have HO453 := n1_; have HO461 := n2_; have HO464 := n3_; have HB := n4_; have BK465 := n5_; have GW465 := n6_; have GE465 := n7_; clear n0_ n1_ n2_ n3_ n4_ n5_ n6_ n7_; clear hb hbox hg; obtain ⟨hcz12_0, hcz12_1, hcz12_2, hcz12_3, hcz12_4, hcz12_5, hcz12_6, hfz12_0, hfz12_1, hfz12_2, hfz12_3, hfz12_4, hfz12_5, hfz12_6⟩ := cells_7 BK465.out; obtain ⟨Ao13, co13, eo13⟩ := Kd.V_slice HO461.out; subst eo13; obtain ⟨Ao14, co14, eo14⟩ := Kd.V_slice HO464.out; subst eo14) | ((with_reducible refine gate_dst (N := 6) rfl ?_); refine box_event ?hg (N := 6) ?hd (cs := #[.int .i64 0, .string (⟨#[]⟩ : ByteArray), .int .i64 0, .int .i64 0, .string (⟨#[]⟩ : ByteArray), .slice none 0 0, .slice none 0 0]) (t := 25) ?hr ?_; (case hd => rfl); (case hg => rfl); (case hr => first | (go_simp; done) | (go_simp; rfl)); intro gb466 hg w15 hbox hb; have n0_ := Aside0.mk (Kd.R_below (by (with_reducible repeat (first | apply Kd.R_alloc | apply Kd.R_drewN | apply Kd.R_drew)); exact (Kd.R_mono (Kd.R_far (p := ⟨gb465, 6, none⟩) (Kd.R_far (p := ⟨gb465, 5, none⟩) (Kd.R_far (p := ⟨gb465, 4, none⟩) (Kd.R_far (p := ⟨gb465, 3, none⟩) (Kd.R_far (p := ⟨gb465, 2, none⟩) (Kd.R_far (p := ⟨gb465, 1, none⟩) (Kd.R_far (p := ⟨gb465, 0, none⟩) (Kd.R_types HO450.out BK465.out (by decide)) (fun _ hk => hk.2) (.int .i64 t454)) (fun _ hk => hk.2) (.string t455)) (fun _ hk => hk.2) (.int .i64 t456)) (fun _ hk => hk.2) (.int .i64 t457)) (fun _ hk => hk.2) (.string t458)) (fun _ hk => hk.2) (.slice Ao13 t459.length co13)) (fun _ hk => hk.2) (.slice Ao14 t462.length co14)) (fun _ h_ => h_.1))) hb); have n1_ := Aside0.mk (Kd.R_below (Kd.R_elderB (by (with_reducible repeat (first | apply Kd.R_alloc | apply Kd.R_drewN | apply Kd.R_drew)); exact (Kd.R_mono (Kd.R_far (p := ⟨gb465, 6, none⟩) (Kd.R_far (p := ⟨gb465, 5, none⟩) (Kd.R_far (p := ⟨gb465, 4, none⟩) (Kd.R_far (p := ⟨gb465, 3, none⟩) (Kd.R_far (p := ⟨gb465, 2, none⟩) (Kd.R_far (p := ⟨gb465, 1, none⟩) (Kd.R_far (p := ⟨gb465, 0, none⟩) (Kd.R_mono HO453.out (fun k_ hk => (⟨hk, hk.2⟩ : _ ∧ k_ ≠ gb465))) (fun _ hk => hk.2) (.int .i64 t454)) (fun _ hk => hk.2) (.string t455)) (fun _ hk => hk.2) (.int .i64 t456)) (fun _ hk => hk.2) (.int .i64 t457)) (fun _ hk => hk.2) (.string t458)) (fun _ hk => hk.2) (.slice Ao13 t459.length co13)) (fun _ hk => hk.2) (.slice Ao14 t462.length co14)) (fun _ h_ => h_.1))) gb466 (Nat.le_of_eq hg.symm)) hb); have n2_ := Aside0.mk (Kd.V_below (Kd.V_elderB (by (with_reducible repeat (first | apply Kd.V_alloc | apply Kd.V_drewN | apply Kd.V_drew)); exact (Kd.V_mono (Kd.V_far (p := ⟨gb465, 6, none⟩) (Kd.V_far (p := ⟨gb465, 5, none⟩) (Kd.V_far (p := ⟨gb465, 4, none⟩) (Kd.V_far (p := ⟨gb465, 3, none⟩) (Kd.V_far (p := ⟨gb465, 2, none⟩) (Kd.V_far (p := ⟨gb465, 1, none⟩) (Kd.V_far (p := ⟨gb465, 0, none⟩) (Kd.V_mono HO461.out (fun k_ hk => (⟨hk, hk.2⟩ : _ ∧ k_ ≠ gb465))) (fun _ hk => hk.2) (.int .i64 t454)) (fun _ hk => hk.2) (.string t455)) (fun _ hk => hk.2) (.int .i64 t456)) (fun _ hk => hk.2) (.int .i64 t457)) (fun _ hk => hk.2) (.string t458)) (fun _ hk => hk.2) (.slice Ao13 t459.length co13)) (fun _ hk => hk.2) (.slice Ao14 t462.length co14)) (fun _ h_ => h_.1))) gb466 (Nat.le_of_eq hg.symm)) hb); have n3_ := Aside0.mk (Kd.V_below (Kd.V_elderB (by (with_reducible repeat (first | apply Kd.V_alloc | apply Kd.V_drewN | apply Kd.V_drew)); exact (Kd.V_mono (Kd.V_far (p := ⟨gb465, 6, none⟩) (Kd.V_far (p := ⟨gb465, 5, none⟩) (Kd.V_far (p := ⟨gb465, 4, none⟩) (Kd.V_far (p := ⟨gb465, 3, none⟩) (Kd.V_far (p := ⟨gb465, 2, none⟩) (Kd.V_far (p := ⟨gb465, 1, none⟩) (Kd.V_far (p := ⟨gb465, 0, none⟩) (Kd.V_mono HO464.out (fun k_ hk => (⟨hk, hk.2⟩ : _ ∧ k_ ≠ gb465))) (fun _ hk => hk.2) (.int .i64 t454)) (fun _ hk => hk.2) (.string t455)) (fun _ hk => hk.2) (.int .i64 t456)) (fun _ hk => hk.2) (.int .i64 t457)) (fun _ hk => hk.2) (.string t458)) (fun _ hk => hk.2) (.slice Ao13 t459.length co13)) (fun _ hk => hk.2) (.slice Ao14 t462.length co14)) (fun _ h_ => h_.1))) gb466 (Nat.le_of_eq hg.symm)) hb); have n4_ := Aside0.mk (blk_below (g := gb465) (o := .cells #[.int .i64 t454, .string t455, .int .i64 t456, .int .i64 t457, .string t458, .slice Ao13 t459.length co13, .slice Ao14 t462.length co14] 25 (0, 0)) (by (with_reducible repeat (first | refine blk_drewN ?_ _ | refine blk_drew ?_ | refine blk_alloc ?_ _)); apply puts_7; (with_reducible repeat (first | refine blk_drewN ?_ _ | refine blk_drew ?_ | refine blk_alloc ?_ _)); exact BK465.out) hb); have n5_ := Aside0.mk (below_step mZ hb); have n6_ := Aside0.mk (hbox); have n7_ := Aside0.mk ((by rw [hg]; exact (below_size mZ) : w.heap.size ≤ gb466)); have n8_ := n7_; have n9_ := Aside0.mk ((by rw [hg]; exact Nat.ne_of_lt (blk_lt (g := gb465) (o := .cells #[.int .i64 t454, .string t455, .int .i64 t456, .int .i64 t457, .string t458, .slice Ao13 t459.length co13, .slice Ao14 t462.length co14] 25 (0, 0)) (by (with_reducible repeat (first | refine blk_drewN ?_ _ | refine blk_drew ?_ | refine blk_alloc ?_ _)); apply puts_7; (with_reducible repeat (first | refine blk_drewN ?_ _ | refine blk_drew ?_ | refine blk_alloc ?_ _)); exact BK465.out)) : gb465 ≠ gb466)); have n10_ := Aside0.mk ((by rw [hg]; exact Nat.ne_of_gt (blk_lt (g := gb465) (o := .cells #[.int .i64 t454, .string t455, .int .i64 t456, .int .i64 t457, .string t458, .slice Ao13 t459.length co13, .slice Ao14 t462.length co14] 25 (0, 0)) (by (with_reducible repeat (first | refine blk_drewN ?_ _ | refine blk_drew ?_ | refine blk_alloc ?_ _)); apply puts_7; (with_reducible repeat (first | refine blk_drewN ?_ _ | refine blk_drew ?_ | refine blk_alloc ?_ _)); exact BK465.out)) : gb466 ≠ gb465)); clear HO450; clear HO453; clear HO461; clear HO464; clear BK465; clear HB; have HO450 := n0_; have HO453 := n1_; have HO461 := n2_; have HO464 := n3_; have BK465 := n4_; have HB := n5_; have BK466 := n6_; have GW466 := n7_; have GE466 := n8_; have NB465_466 := n9_; have NB466_465 := n10_; clear n0_ n1_ n2_ n3_ n4_ n5_ n6_ n7_ n8_ n9_ n10_; clear hb hbox hg; have hnb16 := NB466_465.out; have hnc16 := NB465_466.out; obtain ⟨hcz17_0, hcz17_1, hcz17_2, hcz17_3, hcz17_4, hcz17_5, hcz17_6, hfz17_0, hfz17_1, hfz17_2, hfz17_3, hfz17_4, hfz17_5, hfz17_6⟩ := cells_7 BK466.out))
 try simp only [Act.put, List.setIfInBounds_toArray, List.set_cons_zero, List.set_cons_succ]
 go_loopg [7] k (fun kq v7 w' => ∃ (x7_1 : Int) (x467006_1 : List (S25)) (u467006 : Value), v7 = .int .i64 x7_1 ∧ Aside0 (columbariumlaw13_PredLimits.l0 kq t441 t442 x7_1 t454 t455 t456 t457 t458 t459 t462 2 (⟨#[]⟩ : ByteArray) 0 0 (⟨#[]⟩ : ByteArray) x467006_1 = some r) ∧ Aside0 (kq ≤ k) ∧ Aside0 (Kd.V Kd.string 9 w' w.heap.size (fun k_ => some k_ ≠ (u467006 : Value).ownBlock ∧ k_ ≠ gb465 ∧ k_ ≠ gb466) (.slice Ao13 t459.length co13) t459) ∧ Aside0 (Kd.V k25 25 w' w.heap.size (fun k_ => some k_ ≠ (u467006 : Value).ownBlock ∧ k_ ≠ gb465 ∧ k_ ≠ gb466) (.slice Ao14 t462.length co14) t462) ∧ Aside0 (Kd.R k25 25 w' w.heap.size (fun k_ => k_ ≠ gb465 ∧ k_ ≠ gb466) u467006 x467006_1) ∧ Aside0 (w'.heap[gb465]? = some (.cells #[.int .i64 t454, .string t455, .int .i64 t456, .int .i64 t457, .string t458, (.slice Ao13 t459.length co13), (.slice Ao14 t462.length co14)] 25 (0, 0))) ∧ Aside0 (w'.heap[gb466]? = some (.cells #[.int .i64 2, .string (⟨#[]⟩ : ByteArray), .int .i64 0, .int .i64 0, .string (⟨#[]⟩ : ByteArray), (.slice none 0 0), u467006] 25 (0, 0))) ∧ Aside0 (Below w.heap.size w w'))
 case atStart => exact ⟨(0), (([] : List (S25))), (.slice none 0 0), (by first | rfl | (simp; done) | (simp [*]; done)), H', ⟨Nat.le_refl _⟩, ⟨by (with_reducible repeat (first | apply Kd.V_alloc | apply Kd.V_drewN | apply Kd.V_drew)); exact Kd.V_mono (Kd.V_far (p := ⟨gb466, 6, none⟩) (Kd.V_far (p := ⟨gb466, 5, none⟩) (Kd.V_far (p := ⟨gb466, 4, none⟩) (Kd.V_far (p := ⟨gb466, 3, none⟩) (Kd.V_far (p := ⟨gb466, 2, none⟩) (Kd.V_far (p := ⟨gb466, 1, none⟩) (Kd.V_far (p := ⟨gb466, 0, none⟩) (Kd.V_mono HO461.out (fun k_ hk => (⟨hk, hk.2⟩ : _ ∧ k_ ≠ gb466))) (fun _ hk => hk.2) (.int .i64 2)) (fun _ hk => hk.2) (.string (⟨#[]⟩ : ByteArray))) (fun _ hk => hk.2) (.int .i64 0)) (fun _ hk => hk.2) (.int .i64 0)) (fun _ hk => hk.2) (.string (⟨#[]⟩ : ByteArray))) (fun _ hk => hk.2) (.slice none 0 0)) (fun _ hk => hk.2) (.slice none 0 0)) (fun _ hk => ⟨(by simp [Value.ownBlock]), ⟨hk.1.1.2, hk.1.2⟩⟩)⟩, ⟨by (with_reducible repeat (first | apply Kd.V_alloc | apply Kd.V_drewN | apply Kd.V_drew)); exact Kd.V_mono (Kd.V_far (p := ⟨gb466, 6, none⟩) (Kd.V_far (p := ⟨gb466, 5, none⟩) (Kd.V_far (p := ⟨gb466, 4, none⟩) (Kd.V_far (p := ⟨gb466, 3, none⟩) (Kd.V_far (p := ⟨gb466, 2, none⟩) (Kd.V_far (p := ⟨gb466, 1, none⟩) (Kd.V_far (p := ⟨gb466, 0, none⟩) (Kd.V_mono HO464.out (fun k_ hk => (⟨hk, hk.2⟩ : _ ∧ k_ ≠ gb466))) (fun _ hk => hk.2) (.int .i64 2)) (fun _ hk => hk.2) (.string (⟨#[]⟩ : ByteArray))) (fun _ hk => hk.2) (.int .i64 0)) (fun _ hk => hk.2) (.int .i64 0)) (fun _ hk => hk.2) (.string (⟨#[]⟩ : ByteArray))) (fun _ hk => hk.2) (.slice none 0 0)) (fun _ hk => hk.2) (.slice none 0 0)) (fun _ hk => ⟨(by simp [Value.ownBlock]), ⟨hk.1.1.2, hk.1.2⟩⟩)⟩, ⟨by first | exact Kd.R_nil _ _ _ _ _ | exact Kd.N_nil _ _ _ _ _ | exact Kd.V_nil _ _ _ _ _ | exact Kd.Q_nil _ _ _ _ _ | exact Kd.S_nil _ _ _ _ _⟩, ⟨by (with_reducible repeat (first | refine blk_drewN ?_ _ | refine blk_drew ?_ | refine blk_alloc ?_ _)); refine blk_far ?_ NB465_466.out _; refine blk_far ?_ NB465_466.out _; refine blk_far ?_ NB465_466.out _; refine blk_far ?_ NB465_466.out _; refine blk_far ?_ NB465_466.out _; refine blk_far ?_ NB465_466.out _; refine blk_far ?_ NB465_466.out _; (with_reducible repeat (first | refine blk_drewN ?_ _ | refine blk_drew ?_ | refine blk_alloc ?_ _)); exact BK465.out⟩, ⟨by (with_reducible repeat (first | refine blk_drewN ?_ _ | refine blk_drew ?_ | refine blk_alloc ?_ _)); apply puts_7; (with_reducible repeat (first | refine blk_drewN ?_ _ | refine blk_drew ?_ | refine blk_alloc ?_ _)); exact BK466.out⟩, ⟨mZ⟩⟩
 case round =>
  clear H'
  try clear hcz12_0
  try clear hcz12_1
  try clear hcz12_2
  try clear hcz12_3
  try clear hcz12_4
  try clear hcz12_5
  try clear hcz12_6
  try clear hcz17_0
  try clear hcz17_1
  try clear hcz17_2
  try clear hcz17_3
  try clear hcz17_4
  try clear hcz17_5
  try clear hcz17_6
  try clear hfz12_0
  try clear hfz12_1
  try clear hfz12_2
  try clear hfz12_3
  try clear hfz12_4
  try clear hfz12_5
  try clear hfz12_6
  try clear hfz17_0
  try clear hfz17_1
  try clear hfz17_2
  try clear hfz17_3
  try clear hfz17_4
  try clear hfz17_5
  try clear hfz17_6
  try clear BK465
  try clear BK466
  obtain ⟨x7_1, x467006_1, u467006, rfl, HA, HK1, HO_466005, HO_466006, HO_467006, BK465, BK466, HB⟩ := hrel
  cases gk with
  | zero => exact absurd HA.out (by simp [columbariumlaw13_PredLimits.l0])
  | succ k1 =>
   have H := HA.out
   clear HA
   simp only [columbariumlaw13_PredLimits.l0] at H
   by_cases c18 : x7_1 < t442
   ·rw [if_pos c18] at H
    have c18b0 : decide (x7_1 < t442) = true := decide_eq_true c18
    clear c18
    replace H := Option.bind_eq_some_iff.mp H
    obtain ⟨⟨t467, t468, t469, t470, t471, t472, t475⟩, A190, H⟩ := H
    replace H : (if x467006_1.length < 1353245080339 then (columbariumlaw13_PredLimits.l0 k1 t441 t442 (wrap64 (x7_1 + 1)) t454 t455 t456 t457 t458 t459 t462 2 (⟨#[]⟩ : ByteArray) 0 0 (⟨#[]⟩ : ByteArray) (x467006_1 ++ [(⟨t467, t468, t469, t470, t471, t472, t475⟩ : S25)])) else (none)) = some r := H
    have A19 := Aside0.mk A190
    clear A190
    by_cases c20 : x467006_1.length < 1353245080339
    ·rw [if_pos c20] at H
     have LMc20 := Aside0.mk c20
     clear c20
     obtain ⟨y478, hy478⟩ : ∃ y_ : List (S25), y_ = (x467006_1 ++ [(⟨t467, t468, t469, t470, t471, t472, t475⟩ : S25)]) := ⟨_, rfl⟩
     replace H : (columbariumlaw13_PredLimits.l0 k1 t441 t442 (wrap64 (x7_1 + 1)) t454 t455 t456 t457 t458 t459 t462 2 (⟨#[]⟩ : ByteArray) 0 0 (⟨#[]⟩ : ByteArray) y478) = some r := by first | (rw [hy478]; with_reducible exact H) | (have H2_ := (Option.bind_some _ _).symm.trans H; rw [hy478]; with_reducible exact H2_) | (have H2_ := (Option.bind_some _ _).symm.trans H; with_reducible exact H2_) | with_reducible exact H | (rw [hy478]; exact H) | exact H
     have Ny478 := Aside0.mk hy478
     clear hy478
     have H' := Aside0.mk H
     clear H
     try go_wp2
     have n0_ := Aside0.mk (Kd.V_drew HO_466005.out)
     have n1_ := Aside0.mk (Kd.V_drew HO_466006.out)
     have n2_ := Aside0.mk (Kd.R_drew HO_467006.out)
     have n3_ := Aside0.mk (blk_drew BK465.out)
     have n4_ := Aside0.mk (blk_drew BK466.out)
     have n5_ := Aside0.mk (below_drew1 HB.out)
     clear HO_466005
     clear HO_466006
     clear HO_467006
     clear BK465
     clear BK466
     clear HB
     have HO_466005 := n0_
     have HO_466006 := n1_
     have HO_467006 := n2_
     have BK465 := n3_
     have BK466 := n4_
     have HB := n5_
     clear n0_ n1_ n2_ n3_ n4_ n5_
     refine start_ (n := 7) (S := fun w' => w'.cell? ⟨gb466, 0, none⟩ = some (.int .i64 2) ∧ w'.cell? ⟨gb466, 1, none⟩ = some (.string (⟨#[]⟩ : ByteArray)) ∧ w'.cell? ⟨gb466, 2, none⟩ = some (.int .i64 0) ∧ w'.cell? ⟨gb466, 3, none⟩ = some (.int .i64 0) ∧ w'.cell? ⟨gb466, 4, none⟩ = some (.string (⟨#[]⟩ : ByteArray)) ∧ w'.cell? ⟨gb466, 5, none⟩ = some (.slice none 0 0) ∧ w'.cell? ⟨gb466, 6, none⟩ = some (u467006)) (ds := [6]) #[false, false, false, false, false, false, false] (by kernel_rfl) rfl rfl ⟨(blk_cell BK466.out 0).trans rfl, (blk_cell BK466.out 1).trans rfl, (blk_cell BK466.out 2).trans rfl, (blk_cell BK466.out 3).trans rfl, (blk_cell BK466.out 4).trans rfl, (blk_cell BK466.out 5).trans rfl, (blk_cell BK466.out 6).trans rfl⟩ (fun hHeld => ?_)
     generalize wr.drew = w21 at HO_466005 HO_466006 HO_467006 BK465 BK466 HB hHeld ⊢
     refine pure_ (i := 0) (N := some 25) (v := ?_) (a' := ?_) #[true, false, false, false, false, false, false] rfl rfl (by kernel_rfl) (fun _ _ _ h => h) (Or.inl ⟨by rfl, ?_⟩) ?_ ?_
     rotate_left
     ·intro w'
      go_simp
      with_reducible rfl
     rotate_left
     ·simp only [Act.put, List.setIfInBounds_toArray, List.set_cons_zero, List.set_cons_succ, i64_w, i32_w]
      rfl
     refine take_ (i := 1) (N := some 26) (v := ?_) (a' := ?_) #[true, true, false, false, false, false, false] rfl rfl (by kernel_rfl) (fun _ _ _ h => h) (Or.inl ⟨by rfl, ?_⟩) hHeld ?_ ?_
     rotate_left
     ·rintro w' ⟨s0, s1, s2, s3, s4, s5, s6⟩
      go_simp
      with_reducible rfl
     rotate_left
     ·simp only [Act.put, List.setIfInBounds_toArray, List.set_cons_zero, List.set_cons_succ, i64_w, i32_w]
      rfl
     refine one_ (i := 2) (N := some 27) #[true, true, true, false, false, false, false] rfl rfl (by kernel_rfl) (by decide) (fun K hK => ?_)
     refine goes_ Try.func18 (by kernel_rfl) rfl #[.string (⟨#[120]⟩ : ByteArray)] (by rfl) rfl rfl (by (try simp only [List.map_toArray, List.map_cons, List.map_nil]); first | done | rfl | (simp only [List.length_drop, List.length_take]; rfl)) ?_
     with_reducible refine (columbariumlaw13_null.calls (⟨#[120]⟩ : ByteArray) t467 t468 t469 t470 t471 t472 t475 _ A19.out).mono ?_
     rintro e w22 ⟨v473, v476, rfl, ho0, ho1, hb⟩
     refine ⟨_, rfl, ?_⟩
     have n0_ := Aside0.mk (Kd.V_mono (Kd.V_told (Kd.V_told (Kd.V_old (mV HO_466005.out) hb) (Kd.R_base ho0)) (Kd.R_base ho1)) (fun _ h_ => h_.1))
     have n1_ := Aside0.mk (Kd.V_mono (Kd.V_told (Kd.V_told (Kd.V_old (mV HO_466006.out) hb) (Kd.R_base ho0)) (Kd.R_base ho1)) (fun _ h_ => h_.1))
     have n2_ := Aside0.mk (Kd.R_mono (Kd.R_told (Kd.R_told (Kd.R_old (mR HO_467006.out) hb) (Kd.R_base ho0)) (Kd.R_base ho1)) (fun _ h_ => h_.1))
     have n3_ := Aside0.mk (Kd.R_lower ho0 (below_size mZ))
     have n4_ := Aside0.mk (Kd.R_lower (Kd.R_newB (Kd.R_newB (Kd.R_new' ho1 (Kd.R_lt (mR HO_467006.out))) (mK BK465.out)) (mK BK466.out)) (below_size mZ))
     have n5_ := Aside0.mk (blk_below (mK BK465.out) hb)
     have n6_ := Aside0.mk (blk_below (mK BK466.out) hb)
     have n7_ := Aside0.mk (below_step mZ hb)
     clear HO_466005
     clear HO_466006
     clear HO_467006
     clear BK465
     clear BK466
     clear HB
     have HO_466005 := n0_
     have HO_466006 := n1_
     have HO_467006 := n2_
     have HO474 := n3_
     have HO477 := n4_
     have BK465 := n5_
     have BK466 := n6_
     have HB := n7_
     clear n0_ n1_ n2_ n3_ n4_ n5_ n6_ n7_
     (try clear hb)
     (try clear hb2)
     (try clear hk)
     (try clear hi)
     (try clear ho0)
     (try clear ho1)
     obtain ⟨Ao24, co24, eo24⟩ := Kd.R_slice HO474.out
     (first | subst eo24 | (injection eo24 with f1_ f2_ f3_; have f4_ := f1_.symm; have f5_ := f3_.symm; clear f1_ f2_ f3_; subst f4_; subst f5_))
     obtain ⟨Ao25, co25, eo25⟩ := Kd.R_slice HO477.out
     (first | subst eo25 | (injection eo25 with f1_ f2_ f3_; have f4_ := f1_.symm; have f5_ := f3_.symm; clear f1_ f2_ f3_; subst f4_; subst f5_))
     refine hK.out _ _ ⟨(blk_cell BK466.out 0).trans rfl, (blk_cell BK466.out 1).trans rfl, (blk_cell BK466.out 2).trans rfl, (blk_cell BK466.out 3).trans rfl, (blk_cell BK466.out 4).trans rfl, (blk_cell BK466.out 5).trans rfl, (blk_cell BK466.out 6).trans rfl⟩ (fun hHeld => ?_)
     clear hK K
     refine norm_ (a' := ?_) ?_ ?_
     rotate_left
     ·show Act.put _ (some 27) _ = _
      simp only [Act.put, List.setIfInBounds_toArray, List.set_cons_zero, List.set_cons_succ, i64_w, i32_w]
      rfl
     refine one_ (i := 3) (N := some 28) #[true, true, true, true, false, false, false] rfl rfl (by kernel_rfl) (by decide) (fun K hK => ?_)
     refine value_ (w1 := ?_) (v := ?_) (by rfl) rfl ?_ ?_
     rotate_left 2
     ·go_simp
      constructor
      ·rfl
      ·rfl
     refine hK.out _ _ ⟨(blk_cell (blk_alloc BK466.out _) 0).trans rfl, (blk_cell (blk_alloc BK466.out _) 1).trans rfl, (blk_cell (blk_alloc BK466.out _) 2).trans rfl, (blk_cell (blk_alloc BK466.out _) 3).trans rfl, (blk_cell (blk_alloc BK466.out _) 4).trans rfl, (blk_cell (blk_alloc BK466.out _) 5).trans rfl, (blk_cell (blk_alloc BK466.out _) 6).trans rfl⟩ (fun hHeld => ?_)
     clear hK K
     refine norm_ (a' := ?_) ?_ ?_
     rotate_left
     ·show Act.put _ (some 28) _ = _
      simp only [Act.put, List.setIfInBounds_toArray, List.set_cons_zero, List.set_cons_succ, i64_w, i32_w]
      rfl
     refine one_ (i := 4) (N := some 29) #[true, true, true, true, true, false, false] rfl rfl (by kernel_rfl) (by decide) (fun K hK => ?_)
     refine Kd.R_append_step k25 (w0 := w) w.heap.size (by rfl) (.tmp 26) (.tmp 28) 23 25 (.agg #[(.int .i64 0), (.string ⟨#[]⟩), (.int .i64 0), (.int .i64 0), (.string ⟨#[]⟩), (.slice none 0 0), (.slice none 0 0)]) 104 rfl Try.underlying23 info25 rfl (by decide) (by omega) u467006 x467006_1 (⟨t467, t468, t469, t470, t471, t472, t475⟩ : S25) [.int .i64 t467, .string t468, .int .i64 t469, .int .i64 t470, .string t471, .slice Ao24 t472.length co24, .slice Ao25 t475.length co25] (fun k_ => k_ ≠ gb465 ∧ k_ ≠ gb466) (fun k_ => ((fun k_ => k_ ≠ gb465 ∧ k_ ≠ gb466)) k_ ∧ some k_ ≠ (u467006 : Value).ownBlock) rfl rfl ?aP (fun _ hk => hk) ?aF ?aO ?aB ?aS ?aL ?_
     (case aP => exact k25_mkM _ _ _ (⟨t467, t468, t469, t470, t471, t472, t475⟩ : S25) (Kd.R_mono (Kd.R_types (Kd.R_types (Kd.R_apart' (HO474.out) (Kd.R_typed HO_467006.out) (by decide)) BK465.out (by decide)) BK466.out (by decide)) (fun k_ hk => ⟨⟨hk.1.2, hk.2⟩, hk.1.1.2⟩)) (Kd.R_mono (HO477.out) (fun k_ hk => ⟨⟨hk.1.2, hk.2⟩, hk.1.1.2⟩)))
     (case aB => exact mZ)
     (case aF => exact (fun k_ hk => ⟨Kd.freshB (mK BK465.out) k_ hk, Kd.freshB (mK BK466.out) k_ hk⟩))
     (case aO => exact (by (with_reducible repeat (first | apply Kd.R_alloc | apply Kd.R_drewN | apply Kd.R_drew)); exact Kd.R_mono HO_467006.out (fun _ hk => ⟨hk.1.1.1, hk.1.1.2⟩)))
     (case aS => exact (below_size mZ))
     (case aL => have := LMc20.out; omega)
     intro v479 w23 ho hb hg hat
     rw [← Ny478.out] at ho
     have n0_ := Aside0.mk (Kd.V_afterv (ok := (fun k_ => some k_ ≠ (.slice Ao24 t472.length co24 : Value).ownBlock ∧ some k_ ≠ (.slice Ao25 t475.length co25 : Value).ownBlock ∧ k_ ≠ gb465 ∧ k_ ≠ gb466)) (by (with_reducible repeat (first | apply Kd.V_alloc | apply Kd.V_drewN | apply Kd.V_drew)); exact Kd.V_mono HO_466005.out (fun _ hk => ⟨⟨hk.1.2, ⟨hk.2, ⟨hk.1.1.2.1, hk.1.1.2.2⟩⟩⟩, hk.1.1.1⟩)) hg hat)
     have n1_ := Aside0.mk (Kd.V_afterv (ok := (fun k_ => some k_ ≠ (.slice Ao24 t472.length co24 : Value).ownBlock ∧ some k_ ≠ (.slice Ao25 t475.length co25 : Value).ownBlock ∧ k_ ≠ gb465 ∧ k_ ≠ gb466)) (by (with_reducible repeat (first | apply Kd.V_alloc | apply Kd.V_drewN | apply Kd.V_drew)); exact Kd.V_mono HO_466006.out (fun _ hk => ⟨⟨hk.1.2, ⟨hk.2, ⟨hk.1.1.2.1, hk.1.1.2.2⟩⟩⟩, hk.1.1.1⟩)) hg hat)
     have n2_ := Aside0.mk (blk_grown (mK BK465.out) hg (Kd.R_away HO_467006.out (fun _ hk => hk.1.1.1)))
     have n3_ := Aside0.mk (blk_grown (mK BK466.out) hg (Kd.R_away HO_467006.out (fun _ hk => hk.1.1.2)))
     have n4_ := Aside0.mk (hb)
     have n5_ := Aside0.mk (ho)
     clear HO_466005
     clear HO_466006
     clear BK465
     clear BK466
     clear HB
     clear HO_467006
     clear HO474
     clear HO477
     have HO_466005 := n0_
     have HO_466006 := n1_
     have BK465 := n2_
     have BK466 := n3_
     have HB := n4_
     have HO480 := n5_
     clear n0_ n1_ n2_ n3_ n4_ n5_
     clear ho hb hg hat
     obtain ⟨Ao26, co26, eo26⟩ := Kd.R_slice HO480.out
     (first | subst eo26 | (injection eo26 with f1_ f2_ f3_; have f4_ := f1_.symm; have f5_ := f3_.symm; clear f1_ f2_ f3_; subst f4_; subst f5_))
     refine hK.out _ _ ⟨(blk_cell BK466.out 0).trans rfl, (blk_cell BK466.out 1).trans rfl, (blk_cell BK466.out 2).trans rfl, (blk_cell BK466.out 3).trans rfl, (blk_cell BK466.out 4).trans rfl, (blk_cell BK466.out 5).trans rfl, (blk_cell BK466.out 6).trans rfl⟩ (fun hHeld => ?_)
     clear hK K
     refine norm_ (a' := ?_) ?_ ?_
     rotate_left
     ·show Act.put _ (some 29) _ = _
      simp only [Act.put, List.setIfInBounds_toArray, List.set_cons_zero, List.set_cons_succ, i64_w, i32_w]
      rfl
     refine pure_ (i := 5) (N := some 30) (v := ?_) (a' := ?_) #[true, true, true, true, true, true, false] rfl rfl (by kernel_rfl) (fun _ _ _ h => h) (Or.inl ⟨by rfl, ?_⟩) ?_ ?_
     rotate_left
     ·intro w'
      go_simp
      with_reducible rfl
     rotate_left
     ·simp only [Act.put, List.setIfInBounds_toArray, List.set_cons_zero, List.set_cons_succ, i64_w, i32_w]
      rfl
     refine last_ (i := 6) (N := none) #[true, true, true, true, true, true, true] rfl rfl (by kernel_rfl) (by decide) (fun K hK => ?_)
     have hs27 : w23.cell? ⟨gb466, 6, none⟩ = some (u467006) := (blk_cell BK466.out 6).trans rfl
     have hfs27 := blk_frozen BK466.out 6
     have hns27_0 := NB465_466.out
     have hms27_0 := NB466_465.out
     refine skip_ (w1 := ?_) (by rfl) rfl ?_ ?_
     rotate_left
     ·go_simp
      rfl
     refine hK.out _ _ ?_
     clear hK K
     refine done_ (by kernel_rfl) ?_
     try go_wp2
     go_roundg k1
     case measure => have := HK1.out; omega
     case rel => exact ⟨(wrap64 (x7_1 + 1)), (y478), (.slice Ao26 y478.length co26), (by first | rfl | (simp; done) | (simp [*]; done)), H', ⟨by have := HK1.out; omega⟩, ⟨by (with_reducible repeat (first | apply Kd.V_alloc | apply Kd.V_drewN | apply Kd.V_drew)); exact Kd.V_mono (Kd.V_far (p := ⟨gb466, 6, none⟩) (Kd.V_mono HO_466005.out (fun k_ hk => (⟨hk, hk.1.2.2.2⟩ : _ ∧ k_ ≠ gb466))) (fun _ hk => hk.2) (.slice Ao26 y478.length co26)) (fun _ hk => ⟨hk.1.2, ⟨hk.1.1.2.2.1, hk.1.1.2.2.2⟩⟩)⟩, ⟨by (with_reducible repeat (first | apply Kd.V_alloc | apply Kd.V_drewN | apply Kd.V_drew)); exact Kd.V_mono (Kd.V_far (p := ⟨gb466, 6, none⟩) (Kd.V_mono HO_466006.out (fun k_ hk => (⟨hk, hk.1.2.2.2⟩ : _ ∧ k_ ≠ gb466))) (fun _ hk => hk.2) (.slice Ao26 y478.length co26)) (fun _ hk => ⟨hk.1.2, ⟨hk.1.1.2.2.1, hk.1.1.2.2.2⟩⟩)⟩, ⟨by (with_reducible repeat (first | apply Kd.R_alloc | apply Kd.R_drewN | apply Kd.R_drew)); exact Kd.R_mono (Kd.R_far (p := ⟨gb466, 6, none⟩) (Kd.R_mono HO480.out (fun k_ hk => (⟨hk, hk.2⟩ : _ ∧ k_ ≠ gb466))) (fun _ hk => hk.2) (.slice Ao26 y478.length co26)) (fun _ hk => ⟨hk.1.1, hk.1.2⟩)⟩, ⟨by (with_reducible repeat (first | refine blk_drewN ?_ _ | refine blk_drew ?_ | refine blk_alloc ?_ _)); refine blk_far ?_ NB465_466.out _; (with_reducible repeat (first | refine blk_drewN ?_ _ | refine blk_drew ?_ | refine blk_alloc ?_ _)); exact BK465.out⟩, ⟨by (with_reducible repeat (first | refine blk_drewN ?_ _ | refine blk_drew ?_ | refine blk_alloc ?_ _)); refine blk_put (cs := #[.int .i64 2, .string (⟨#[]⟩ : ByteArray), .int .i64 0, .int .i64 0, .string (⟨#[]⟩ : ByteArray), .slice none 0 0, u467006]) ?_ 6 _ rfl; (with_reducible repeat (first | refine blk_drewN ?_ _ | refine blk_drew ?_ | refine blk_alloc ?_ _)); exact BK466.out⟩, ⟨mZ⟩⟩
    ·rw [if_neg c20] at H
     exact absurd H (by simp)
   ·rw [if_neg c18] at H
    have c18b0 : decide (x7_1 < t442) = false := decide_eq_false c18
    clear c18
    replace H := Option.bind_eq_some_iff.mp H
    obtain ⟨⟨t481, t484⟩, A280, H⟩ := H
    replace H : ((pred_Encode.f k1 2 (⟨#[]⟩ : ByteArray) 0 0 (⟨#[]⟩ : ByteArray) ([] : List ByteArray) x467006_1).bind fun bt485 => ((pred_Right.f k1 t454 t455 t456 t457 t458 t459 t462).bind fun t489 => (if (t489 == (decide ((wrap64 (t441 + 1)) ≤ 6))) = true then (if ((t484 == 0) == (decide ((wrap64 (t441 + 1)) ≤ 6))) = true then ((pred_Right.f k1 2 (⟨#[]⟩ : ByteArray) 0 0 (⟨#[]⟩ : ByteArray) ([] : List ByteArray) x467006_1).bind fun t490 => (if (t490 == (decide ((wrap64 (t442 + 1)) ≤ 40))) = true then (if ((bt485.2 == 0) == (decide ((wrap64 (t442 + 1)) ≤ 40))) = true then ((pred_Size.f k1 t454 t455 t456 t457 t458 t459 t462).bind fun t491 => (if t491 = (wrap64 (t441 + 1)) then ((pred_Size.f k1 2 (⟨#[]⟩ : ByteArray) 0 0 (⟨#[]⟩ : ByteArray) ([] : List ByteArray) x467006_1).bind fun t492 => (if t492 = (wrap64 (t442 + 1)) then ((columbariumlaw13_known.f k1).bind fun t493 => (some t493)) else (some false))) else (some false))) else (some false)) else (some false))) else (some false)) else (some false)))) = some r := H
    have A28 := Aside0.mk A280
    clear A280
    replace H := Option.bind_eq_some_iff.mp H
    obtain ⟨⟨t485, t488⟩, A290, H⟩ := H
    replace H : ((pred_Right.f k1 t454 t455 t456 t457 t458 t459 t462).bind fun t489 => (if (t489 == (decide ((wrap64 (t441 + 1)) ≤ 6))) = true then (if ((t484 == 0) == (decide ((wrap64 (t441 + 1)) ≤ 6))) = true then ((pred_Right.f k1 2 (⟨#[]⟩ : ByteArray) 0 0 (⟨#[]⟩ : ByteArray) ([] : List ByteArray) x467006_1).bind fun t490 => (if (t490 == (decide ((wrap64 (t442 + 1)) ≤ 40))) = true then (if ((t488 == 0) == (decide ((wrap64 (t442 + 1)) ≤ 40))) = true then ((pred_Size.f k1 t454 t455 t456 t457 t458 t459 t462).bind fun t491 => (if t491 = (wrap64 (t441 + 1)) then ((pred_Size.f k1 2 (⟨#[]⟩ : ByteArray) 0 0 (⟨#[]⟩ : ByteArray) ([] : List ByteArray) x467006_1).bind fun t492 => (if t492 = (wrap64 (t442 + 1)) then ((columbariumlaw13_known.f k1).bind fun t493 => (some t493)) else (some false))) else (some false))) else (some false)) else (some false))) else (some false)) else (some false))) = some r := H
    have A29 := Aside0.mk A290
    clear A290
    replace H := Option.bind_eq_some_iff.mp H
    obtain ⟨t489, A300, H⟩ := H
    replace H : (if (t489 == (decide ((wrap64 (t441 + 1)) ≤ 6))) = true then (if ((t484 == 0) == (decide ((wrap64 (t441 + 1)) ≤ 6))) = true then ((pred_Right.f k1 2 (⟨#[]⟩ : ByteArray) 0 0 (⟨#[]⟩ : ByteArray) ([] : List ByteArray) x467006_1).bind fun t490 => (if (t490 == (decide ((wrap64 (t442 + 1)) ≤ 40))) = true then (if ((t488 == 0) == (decide ((wrap64 (t442 + 1)) ≤ 40))) = true then ((pred_Size.f k1 t454 t455 t456 t457 t458 t459 t462).bind fun t491 => (if t491 = (wrap64 (t441 + 1)) then ((pred_Size.f k1 2 (⟨#[]⟩ : ByteArray) 0 0 (⟨#[]⟩ : ByteArray) ([] : List ByteArray) x467006_1).bind fun t492 => (if t492 = (wrap64 (t442 + 1)) then ((columbariumlaw13_known.f k1).bind fun t493 => (some t493)) else (some false))) else (some false))) else (some false)) else (some false))) else (some false)) else (some false)) = some r := H
    have A30 := Aside0.mk A300
    clear A300
    by_cases c31 : (t489 == (decide ((wrap64 (t441 + 1)) ≤ 6))) = true
    ·rw [if_pos c31] at H
     have c31b0 : (t489 == (decide ((wrap64 (t441 + 1)) ≤ 6))) = true := c31
     (try (have c31b1 : decide (t489 = (decide ((wrap64 (t441 + 1)) ≤ 6))) = true := by simpa using c31))
     (try (have c31b2 : (t489 == (decide ((wrap64 (t441 + 1)) ≤ 6))) = true := by simpa using c31))
     clear c31
     by_cases c32 : ((t484 == 0) == (decide ((wrap64 (t441 + 1)) ≤ 6))) = true
     ·rw [if_pos c32] at H
      have c32b0 : ((t484 == 0) == (decide ((wrap64 (t441 + 1)) ≤ 6))) = true := c32
      (try (have c32b1 : decide ((t484 == 0) = (decide ((wrap64 (t441 + 1)) ≤ 6))) = true := by simpa using c32))
      (try (have c32b2 : ((t484 == 0) == (decide ((wrap64 (t441 + 1)) ≤ 6))) = true := by simpa using c32))
      clear c32
      replace H := Option.bind_eq_some_iff.mp H
      obtain ⟨t490, A330, H⟩ := H
      replace H : (if (t490 == (decide ((wrap64 (t442 + 1)) ≤ 40))) = true then (if ((t488 == 0) == (decide ((wrap64 (t442 + 1)) ≤ 40))) = true then ((pred_Size.f k1 t454 t455 t456 t457 t458 t459 t462).bind fun t491 => (if t491 = (wrap64 (t441 + 1)) then ((pred_Size.f k1 2 (⟨#[]⟩ : ByteArray) 0 0 (⟨#[]⟩ : ByteArray) ([] : List ByteArray) x467006_1).bind fun t492 => (if t492 = (wrap64 (t442 + 1)) then ((columbariumlaw13_known.f k1).bind fun t493 => (some t493)) else (some false))) else (some false))) else (some false)) else (some false)) = some r := H
      have A33 := Aside0.mk A330
      clear A330
      by_cases c34 : (t490 == (decide ((wrap64 (t442 + 1)) ≤ 40))) = true
      ·rw [if_pos c34] at H
       have c34b0 : (t490 == (decide ((wrap64 (t442 + 1)) ≤ 40))) = true := c34
       (try (have c34b1 : decide (t490 = (decide ((wrap64 (t442 + 1)) ≤ 40))) = true := by simpa using c34))
       (try (have c34b2 : (t490 == (decide ((wrap64 (t442 + 1)) ≤ 40))) = true := by simpa using c34))
       clear c34
       by_cases c35 : ((t488 == 0) == (decide ((wrap64 (t442 + 1)) ≤ 40))) = true
       ·rw [if_pos c35] at H
        have c35b0 : ((t488 == 0) == (decide ((wrap64 (t442 + 1)) ≤ 40))) = true := c35
        (try (have c35b1 : decide ((t488 == 0) = (decide ((wrap64 (t442 + 1)) ≤ 40))) = true := by simpa using c35))
        (try (have c35b2 : ((t488 == 0) == (decide ((wrap64 (t442 + 1)) ≤ 40))) = true := by simpa using c35))
        clear c35
        replace H := Option.bind_eq_some_iff.mp H
        obtain ⟨t491, A360, H⟩ := H
        replace H : (if t491 = (wrap64 (t441 + 1)) then ((pred_Size.f k1 2 (⟨#[]⟩ : ByteArray) 0 0 (⟨#[]⟩ : ByteArray) ([] : List ByteArray) x467006_1).bind fun t492 => (if t492 = (wrap64 (t442 + 1)) then ((columbariumlaw13_known.f k1).bind fun t493 => (some t493)) else (some false))) else (some false)) = some r := H
        have A36 := Aside0.mk A360
        clear A360
        by_cases c37 : t491 = (wrap64 (t441 + 1))
        ·rw [if_pos c37] at H
         have c37b0 : (t491 == (wrap64 (t441 + 1))) = true := beq_iff_eq.mpr c37
         have c37b1 : (t491 != (wrap64 (t441 + 1))) = false := bne_eq_false_iff_eq.mpr c37
         clear c37
         replace H := Option.bind_eq_some_iff.mp H
         obtain ⟨t492, A380, H⟩ := H
         replace H : (if t492 = (wrap64 (t442 + 1)) then ((columbariumlaw13_known.f k1).bind fun t493 => (some t493)) else (some false)) = some r := H
         have A38 := Aside0.mk A380
         clear A380
         by_cases c39 : t492 = (wrap64 (t442 + 1))
         ·rw [if_pos c39] at H
          have c39b0 : (t492 == (wrap64 (t442 + 1))) = true := beq_iff_eq.mpr c39
          have c39b1 : (t492 != (wrap64 (t442 + 1))) = false := bne_eq_false_iff_eq.mpr c39
          clear c39
          replace H := Option.bind_eq_some_iff.mp H
          obtain ⟨t493, A400, H⟩ := H
          replace H : (some t493) = some r := H
          have A40 := Aside0.mk A400
          clear A400
          obtain rfl := Option.some.inj H
          have hnb41 := NB465_466.out
          have hnc41 := NB466_465.out
          obtain ⟨hcz42_0, hcz42_1, hcz42_2, hcz42_3, hcz42_4, hcz42_5, hcz42_6, hfz42_0, hfz42_1, hfz42_2, hfz42_3, hfz42_4, hfz42_5, hfz42_6⟩ := cells_7 BK465.out
          go_wp2_with (first | ((with_reducible refine gate_callee (f := 19) rfl ?_); refine goesL_ (some 33) rfl rfl Try.func19 (by kernel_rfl) rfl #[.agg #[.int .i64 t454, .string t455, .int .i64 t456, .int .i64 t457, .string t458, .slice Ao13 t459.length co13, .slice Ao14 t462.length co14]] rfl (by (try simp only [List.map_toArray, List.map_cons, List.map_nil]); first | done | rfl | (simp only [List.length_drop, List.length_take]; rfl)) ?_; (with_reducible refine (pred_Encode.calls k1 t454 t455 t456 t457 t458 _ _ t459 _ _ t462 t481 t484 _ ?side1 ?side2 ?side3 ?side4 A28.out).mono ?_); (case side1 => repeat (first | exact (Kd.V_reads' HO_466005.out).2.2 | (with_reducible refine Kd.C_alloc ?_ _) | (with_reducible refine Kd.C_drewN ?_ _) | (with_reducible refine Kd.C_drew ?_))); (case side2 => exact (Kd.V_reads' HO_466005.out).2.1); (case side3 => repeat (first | exact (Kd.V_reads' HO_466006.out).2.2 | (with_reducible refine Kd.C_alloc ?_ _) | (with_reducible refine Kd.C_drewN ?_ _) | (with_reducible refine Kd.C_drew ?_))); (case side4 => exact (Kd.V_reads' HO_466006.out).2.1); rintro e w43 ⟨v482, rfl, ho0, hb⟩; refine ⟨_, rfl, ?_⟩; have n0_ := Aside0.mk (Kd.V_elder' (mV HO_466005.out) (Kd.R_base ho0) hb); have n1_ := Aside0.mk (Kd.V_elder' (mV HO_466006.out) (Kd.R_base ho0) hb); have n2_ := Aside0.mk (Kd.R_below (mR HO_467006.out) hb); have n3_ := Aside0.mk (Kd.R_lower ho0 (below_size mZ)); have n4_ := Aside0.mk (blk_below (mK BK465.out) hb); have n5_ := Aside0.mk (blk_below (mK BK466.out) hb); have n6_ := Aside0.mk (below_step mZ hb); clear HO_466005; clear HO_466006; clear HO_467006; clear BK465; clear BK466; clear HB; have HO_466005 := n0_; have HO_466006 := n1_; have HO_467006 := n2_; have HO483 := n3_; have BK465 := n4_; have BK466 := n5_; have HB := n6_; clear n0_ n1_ n2_ n3_ n4_ n5_ n6_; (try clear hb); (try clear hb2); (try clear hk); (try clear hi); (try clear ho0); obtain ⟨hcz44_0, hcz44_1, hcz44_2, hcz44_3, hcz44_4, hcz44_5, hcz44_6, hfz44_0, hfz44_1, hfz44_2, hfz44_3, hfz44_4, hfz44_5, hfz44_6⟩ := cells_7 BK466.out; obtain ⟨Ao45, co45, eo45⟩ := Kd.R_slice HO_467006.out; subst eo45) | ((with_reducible refine gate_callee (f := 19) rfl ?_); refine goesL_ (some 38) rfl rfl Try.func19 (by kernel_rfl) rfl #[.agg #[.int .i64 2, .string (⟨#[]⟩ : ByteArray), .int .i64 0, .int .i64 0, .string (⟨#[]⟩ : ByteArray), .slice none 0 0, .slice Ao45 x467006_1.length co45]] rfl (by (try simp only [List.map_toArray, List.map_cons, List.map_nil]); first | done | rfl | (simp only [List.length_drop, List.length_take]; rfl)) ?_; (refine (pred_Encode.calls k1 2 (⟨#[]⟩ : ByteArray) 0 0 (⟨#[]⟩ : ByteArray) _ _ ([] : List ByteArray) _ _ x467006_1 t485 t488 _ ?side1 ?side2 ?side3 ?side4 A29.out).mono ?_); (case side1 => exact Kd.C_nil _ _); (case side2 => exact Nat.le_refl _); (case side3 => repeat (first | exact (Kd.R_reads' HO_467006.out).2.2 | (with_reducible refine Kd.C_alloc ?_ _) | (with_reducible refine Kd.C_drewN ?_ _) | (with_reducible refine Kd.C_drew ?_))); (case side4 => exact (Kd.R_reads' HO_467006.out).2.1); rintro e w46 ⟨v486, rfl, ho0, hb⟩; refine ⟨_, rfl, ?_⟩; have n0_ := Aside0.mk (Kd.V_elder' (mV HO_466005.out) (Kd.R_base ho0) hb); have n1_ := Aside0.mk (Kd.V_elder' (mV HO_466006.out) (Kd.R_base ho0) hb); have n2_ := Aside0.mk (Kd.R_below (mR HO_467006.out) hb); have n3_ := Aside0.mk (Kd.R_elder' (mR HO483.out) (Kd.R_base ho0) hb); have n4_ := Aside0.mk (Kd.R_lower (Kd.R_new' ho0 (Kd.R_lt (mR HO483.out))) (below_size mZ)); have n5_ := Aside0.mk (blk_below (mK BK465.out) hb); have n6_ := Aside0.mk (blk_below (mK BK466.out) hb); have n7_ := Aside0.mk (below_step mZ hb); clear HO_466005; clear HO_466006; clear HO_467006; clear HO483; clear BK465; clear BK466; clear HB; have HO_466005 := n0_; have HO_466006 := n1_; have HO_467006 := n2_; have HO483 := n3_; have HO487 := n4_; have BK465 := n5_; have BK466 := n6_; have HB := n7_; clear n0_ n1_ n2_ n3_ n4_ n5_ n6_ n7_; (try clear hb); (try clear hb2); (try clear hk); (try clear hi); (try clear ho0); obtain ⟨hcz47_0, hcz47_1, hcz47_2, hcz47_3, hcz47_4, hcz47_5, hcz47_6, hfz47_0, hfz47_1, hfz47_2, hfz47_3, hfz47_4, hfz47_5, hfz47_6⟩ := cells_7 BK465.out) | ((with_reducible refine gate_callee (f := 8) rfl ?_); refine goesL_ (some 42) rfl rfl Try.func8 (by kernel_rfl) rfl #[.agg #[.int .i64 t454, .string t455, .int .i64 t456, .int .i64 t457, .string t458, .slice Ao13 t459.length co13, .slice Ao14 t462.length co14]] rfl (by (try simp only [List.map_toArray, List.map_cons, List.map_nil]); first | done | rfl | (simp only [List.length_drop, List.length_take]; rfl)) ?_; (with_reducible refine (pred_Right.calls k1 t454 t455 t456 t457 t458 _ _ t459 _ _ t462 t489 _ ?side1 ?side2 ?side3 ?side4 A30.out).mono ?_); (case side1 => repeat (first | exact (Kd.V_reads' HO_466005.out).2.2 | (with_reducible refine Kd.C_alloc ?_ _) | (with_reducible refine Kd.C_drewN ?_ _) | (with_reducible refine Kd.C_drew ?_))); (case side2 => exact (Kd.V_reads' HO_466005.out).2.1); (case side3 => repeat (first | exact (Kd.V_reads' HO_466006.out).2.2 | (with_reducible refine Kd.C_alloc ?_ _) | (with_reducible refine Kd.C_drewN ?_ _) | (with_reducible refine Kd.C_drew ?_))); (case side4 => exact (Kd.V_reads' HO_466006.out).2.1); rintro e w48 ⟨rfl, hb⟩; refine ⟨_, rfl, ?_⟩; have n0_ := Aside0.mk (Kd.V_below (mV HO_466005.out) hb); have n1_ := Aside0.mk (Kd.V_below (mV HO_466006.out) hb); have n2_ := Aside0.mk (Kd.R_below (mR HO_467006.out) hb); have n3_ := Aside0.mk (Kd.R_below (mR HO483.out) hb); have n4_ := Aside0.mk (Kd.R_below (mR HO487.out) hb); have n5_ := Aside0.mk (blk_below (mK BK465.out) hb); have n6_ := Aside0.mk (blk_below (mK BK466.out) hb); have n7_ := Aside0.mk (below_step mZ hb); clear HO_466005; clear HO_466006; clear HO_467006; clear HO483; clear HO487; clear BK465; clear BK466; clear HB; have HO_466005 := n0_; have HO_466006 := n1_; have HO_467006 := n2_; have HO483 := n3_; have HO487 := n4_; have BK465 := n5_; have BK466 := n6_; have HB := n7_; clear n0_ n1_ n2_ n3_ n4_ n5_ n6_ n7_; (try clear hb); (try clear hb2); (try clear hk); (try clear hi); obtain ⟨hcz49_0, hcz49_1, hcz49_2, hcz49_3, hcz49_4, hcz49_5, hcz49_6, hfz49_0, hfz49_1, hfz49_2, hfz49_3, hfz49_4, hfz49_5, hfz49_6⟩ := cells_7 BK466.out) | (go_at_call 20; (with_reducible refine (pred_Size.calls k1 t454 t455 t456 t457 t458 _ _ t459 _ _ t462 t491 _ ?side1 ?side2 ?side3 ?side4 A36.out).mono ?_); (case side1 => repeat (first | exact (Kd.V_reads' HO_466005.out).2.2 | (with_reducible refine Kd.C_alloc ?_ _) | (with_reducible refine Kd.C_drewN ?_ _) | (with_reducible refine Kd.C_drew ?_))); (case side2 => exact (Kd.V_reads' HO_466005.out).2.1); (case side3 => repeat (first | exact (Kd.V_reads' HO_466006.out).2.2 | (with_reducible refine Kd.C_alloc ?_ _) | (with_reducible refine Kd.C_drewN ?_ _) | (with_reducible refine Kd.C_drew ?_))); (case side4 => exact (Kd.V_reads' HO_466006.out).2.1); rintro e w52 ⟨rfl, hb⟩; have n0_ := Aside0.mk (Kd.V_below (mV HO_466005.out) hb); have n1_ := Aside0.mk (Kd.V_below (mV HO_466006.out) hb); have n2_ := Aside0.mk (Kd.R_below (mR HO_467006.out) hb); have n3_ := Aside0.mk (Kd.R_below (mR HO483.out) hb); have n4_ := Aside0.mk (Kd.R_below (mR HO487.out) hb); have n5_ := Aside0.mk (blk_below (mK BK465.out) hb); have n6_ := Aside0.mk (blk_below (mK BK466.out) hb); have n7_ := Aside0.mk (below_step mZ hb); clear HO_466005; clear HO_466006; clear HO_467006; clear HO483; clear HO487; clear BK465; clear BK466; clear HB; have HO_466005 := n0_; have HO_466006 := n1_; have HO_467006 := n2_; have HO483 := n3_; have HO487 := n4_; have BK465 := n5_; have BK466 := n6_; have HB := n7_; clear n0_ n1_ n2_ n3_ n4_ n5_ n6_ n7_; (try clear hb); (try clear hb2); (try clear hk); (try clear hi); obtain ⟨hcz53_0, hcz53_1, hcz53_2, hcz53_3, hcz53_4, hcz53_5, hcz53_6, hfz53_0, hfz53_1, hfz53_2, hfz53_3, hfz53_4, hfz53_5, hfz53_6⟩ := cells_7 BK466.out) | (go_at_call 11; (with_reducible refine (columbariumlaw13_known.calls k1  t493 _ A40.out).mono ?_); rintro e w55 ⟨rfl, hb⟩; have n0_ := Aside0.mk (Kd.V_below (mV HO_466005.out) hb); have n1_ := Aside0.mk (Kd.V_below (mV HO_466006.out) hb); have n2_ := Aside0.mk (Kd.R_below (mR HO_467006.out) hb); have n3_ := Aside0.mk (Kd.R_below (mR HO483.out) hb); have n4_ := Aside0.mk (Kd.R_below (mR HO487.out) hb); have n5_ := Aside0.mk (blk_below (mK BK465.out) hb); have n6_ := Aside0.mk (blk_below (mK BK466.out) hb); have n7_ := Aside0.mk (below_step mZ hb); clear HO_466005; clear HO_466006; clear HO_467006; clear HO483; clear HO487; clear BK465; clear BK466; clear HB; have HO_466005 := n0_; have HO_466006 := n1_; have HO_467006 := n2_; have HO483 := n3_; have HO487 := n4_; have BK465 := n5_; have BK466 := n6_; have HB := n7_; clear n0_ n1_ n2_ n3_ n4_ n5_ n6_ n7_; (try clear hb); (try clear hb2); (try clear hk); (try clear hi))| (go_at_call 8; (refine (pred_Right.calls k1 2 (⟨#[]⟩ : ByteArray) 0 0 (⟨#[]⟩ : ByteArray) _ _ ([] : List ByteArray) _ _ x467006_1 t490 _ ?side1 ?side2 ?side3 ?side4 A33.out).mono ?_); (case side1 => exact Kd.C_nil _ _); (case side2 => exact Nat.le_refl _); (case side3 => repeat (first | exact (Kd.R_reads' HO_467006.out).2.2 | (with_reducible refine Kd.C_alloc ?_ _) | (with_reducible refine Kd.C_drewN ?_ _) | (with_reducible refine Kd.C_drew ?_))); (case side4 => exact (Kd.R_reads' HO_467006.out).2.1); rintro e w50 ⟨rfl, hb⟩; have n0_ := Aside0.mk (Kd.V_below (mV HO_466005.out) hb); have n1_ := Aside0.mk (Kd.V_below (mV HO_466006.out) hb); have n2_ := Aside0.mk (Kd.R_below (mR HO_467006.out) hb); have n3_ := Aside0.mk (Kd.R_below (mR HO483.out) hb); have n4_ := Aside0.mk (Kd.R_below (mR HO487.out) hb); have n5_ := Aside0.mk (blk_below (mK BK465.out) hb); have n6_ := Aside0.mk (blk_below (mK BK466.out) hb); have n7_ := Aside0.mk (below_step mZ hb); clear HO_466005; clear HO_466006; clear HO_467006; clear HO483; clear HO487; clear BK465; clear BK466; clear HB; have HO_466005 := n0_; have HO_466006 := n1_; have HO_467006 := n2_; have HO483 := n3_; have HO487 := n4_; have BK465 := n5_; have BK466 := n6_; have HB := n7_; clear n0_ n1_ n2_ n3_ n4_ n5_ n6_ n7_; (try clear hb); (try clear hb2); (try clear hk); (try clear hi); obtain ⟨hcz51_0, hcz51_1, hcz51_2, hcz51_3, hcz51_4, hcz51_5, hcz51_6, hfz51_0, hfz51_1, hfz51_2, hfz51_3, hfz51_4, hfz51_5, hfz51_6⟩ := cells_7 BK465.out) | (go_at_call 20; (refine (pred_Size.calls k1 2 (⟨#[]⟩ : ByteArray) 0 0 (⟨#[]⟩ : ByteArray) _ _ ([] : List ByteArray) _ _ x467006_1 t492 _ ?side1 ?side2 ?side3 ?side4 A38.out).mono ?_); (case side1 => exact Kd.C_nil _ _); (case side2 => exact Nat.le_refl _); (case side3 => repeat (first | exact (Kd.R_reads' HO_467006.out).2.2 | (with_reducible refine Kd.C_alloc ?_ _) | (with_reducible refine Kd.C_drewN ?_ _) | (with_reducible refine Kd.C_drew ?_))); (case side4 => exact (Kd.R_reads' HO_467006.out).2.1); rintro e w54 ⟨rfl, hb⟩; have n0_ := Aside0.mk (Kd.V_below (mV HO_466005.out) hb); have n1_ := Aside0.mk (Kd.V_below (mV HO_466006.out) hb); have n2_ := Aside0.mk (Kd.R_below (mR HO_467006.out) hb); have n3_ := Aside0.mk (Kd.R_below (mR HO483.out) hb); have n4_ := Aside0.mk (Kd.R_below (mR HO487.out) hb); have n5_ := Aside0.mk (blk_below (mK BK465.out) hb); have n6_ := Aside0.mk (blk_below (mK BK466.out) hb); have n7_ := Aside0.mk (below_step mZ hb); clear HO_466005; clear HO_466006; clear HO_467006; clear HO483; clear HO487; clear BK465; clear BK466; clear HB; have HO_466005 := n0_; have HO_466006 := n1_; have HO_467006 := n2_; have HO483 := n3_; have HO487 := n4_; have BK465 := n5_; have BK466 := n6_; have HB := n7_; clear n0_ n1_ n2_ n3_ n4_ n5_ n6_ n7_; (try clear hb); (try clear hb2); (try clear hk); (try clear hi)) )
          go_ret
          exact ⟨by first | rfl | (simp [errW_none, errW_some] <;> rfl) | (simp [*, errW_none, errW_some] <;> rfl), mZ⟩
         ·rw [if_neg c39] at H
          have c39b0 : (t492 == (wrap64 (t442 + 1))) = false := beq_eq_false_iff_ne.mpr c39
          have c39b1 : (t492 != (wrap64 (t442 + 1))) = true := bne_iff_ne.mpr c39
          exact absurd ((Option.some.inj H).trans hrt_.out) (by decide)
        ·rw [if_neg c37] at H
         have c37b0 : (t491 == (wrap64 (t441 + 1))) = false := beq_eq_false_iff_ne.mpr c37
         have c37b1 : (t491 != (wrap64 (t441 + 1))) = true := bne_iff_ne.mpr c37
         exact absurd ((Option.some.inj H).trans hrt_.out) (by decide)
       ·rw [if_neg c35] at H
        have c35b0 : ((t488 == 0) == (decide ((wrap64 (t442 + 1)) ≤ 40))) = false := by simpa using c35
        (try (have c35b1 : decide ((t488 == 0) = (decide ((wrap64 (t442 + 1)) ≤ 40))) = false := by simpa using c35))
        (try (have c35b2 : ((t488 == 0) == (decide ((wrap64 (t442 + 1)) ≤ 40))) = false := by simpa using c35))
        (try (have c35b3 : ¬ ((t488 == 0) = (decide ((wrap64 (t442 + 1)) ≤ 40))) := by simpa using c35))
        clear c35
        exact absurd ((Option.some.inj H).trans hrt_.out) (by decide)
      ·rw [if_neg c34] at H
       have c34b0 : (t490 == (decide ((wrap64 (t442 + 1)) ≤ 40))) = false := by simpa using c34
       (try (have c34b1 : decide (t490 = (decide ((wrap64 (t442 + 1)) ≤ 40))) = false := by simpa using c34))
       (try (have c34b2 : (t490 == (decide ((wrap64 (t442 + 1)) ≤ 40))) = false := by simpa using c34))
       (try (have c34b3 : ¬ (t490 = (decide ((wrap64 (t442 + 1)) ≤ 40))) := by simpa using c34))
       clear c34
       exact absurd ((Option.some.inj H).trans hrt_.out) (by decide)
     ·rw [if_neg c32] at H
      have c32b0 : ((t484 == 0) == (decide ((wrap64 (t441 + 1)) ≤ 6))) = false := by simpa using c32
      (try (have c32b1 : decide ((t484 == 0) = (decide ((wrap64 (t441 + 1)) ≤ 6))) = false := by simpa using c32))
      (try (have c32b2 : ((t484 == 0) == (decide ((wrap64 (t441 + 1)) ≤ 6))) = false := by simpa using c32))
      (try (have c32b3 : ¬ ((t484 == 0) = (decide ((wrap64 (t441 + 1)) ≤ 6))) := by simpa using c32))
      clear c32
      exact absurd ((Option.some.inj H).trans hrt_.out) (by decide)
    ·rw [if_neg c31] at H
     have c31b0 : (t489 == (decide ((wrap64 (t441 + 1)) ≤ 6))) = false := by simpa using c31
     (try (have c31b1 : decide (t489 = (decide ((wrap64 (t441 + 1)) ≤ 6))) = false := by simpa using c31))
     (try (have c31b2 : (t489 == (decide ((wrap64 (t441 + 1)) ≤ 6))) = false := by simpa using c31))
     (try (have c31b3 : ¬ (t489 = (decide ((wrap64 (t441 + 1)) ≤ 6))) := by simpa using c31))
     clear c31
     exact absurd ((Option.some.inj H).trans hrt_.out) (by decide)

/-- THE ONE PURE STATEMENT of columbariumlaw13_PredLimits: yours. -/
def columbariumlaw13_PredLimits.Pure : Prop := ∀ (a0 : Int) (a1 : Int), (Lit.int .i64 a0).wf = true → (Lit.int .i64 a1).wf = true → ∃ k, columbariumlaw13_PredLimits.f k a0 a1 = some true
theorem columbariumlaw13_PredLimits.walk (P : columbariumlaw13_PredLimits.Pure) (a0 : Int) (a1 : Int) (w : World) (w0 : (Lit.int .i64 a0).wf = true) (w1 : (Lit.int .i64 a1).wf = true) :
  Calls Try.prog 5 #[.int .i64 a0, .int .i64 a1] w fun e w' => e = .returned (.bool true) ∧ Below w.heap.size w w' := by
 obtain ⟨k, h⟩ := P a0 a1 w0 w1
 refine (columbariumlaw13_PredLimits.calls k a0 a1 true w ⟨rfl⟩ h).mono ?_
 rintro e w' ⟨rfl, hd⟩
 exact ⟨rfl, hd⟩

end Go.Proofs.Ytalpcnomfebdiaa.QPredLimits
