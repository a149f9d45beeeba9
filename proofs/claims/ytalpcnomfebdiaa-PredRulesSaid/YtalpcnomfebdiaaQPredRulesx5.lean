-- Written by a program of this session (wip/myprint.py): the machine's side of a law
import Derived.Test.YtalpcnomfebdiaaQPredRulesx0
import Derived.Test.YtalpcnomfebdiaaQPredRulesx2
import Derived.Test.YtalpcnomfebdiaaQPredRulesx4
namespace Go.Proofs.Ytalpcnomfebdiaa.QPredRules
open Go.RowKit Go.Proofs.YtalpcnomfebdiaaW.PrintWords Go.Proofs.YtalpcnomfebdiaaW.PrintLast Go.Proofs.YtalpcnomfebdiaaW.PrintMore
attribute [local go_sem] max2_int min2_int max_two min_two max_three min_three max_four min_four   -- for this text's walks alone
set_option linter.unusedVariables false
set_option linter.unusedSimpArgs false

/-! ### pred_parts: function 25 -/
mutual
def pred_parts.j0 : Nat → Int → Bool → Int → ByteArray → Int → Int → ByteArray → List ByteArray → List (S25) → Option (Bool)
 | 0, _, _, _, _, _, _, _, _, _ => none
 | k + 1, x1, x13, x154000, x154001, x154002, x154003, x154004, x154005, x154006 => if x13 = true then (some false) else (pred_parts.l0 k x1 x154006 (x154006.length : Int) 0)
def pred_parts.l0 : Nat → Int → List (S25) → Int → Int → Option (Bool)
 | 0, _, _, _, _ => none
 | k + 1, x1, x15, x16, x17 => if x17 < x16 then (if 0 ≤ x17 then (if x17 < (x15.length : Int) then ((pred_parts.f k ((rd_T25 x15 x17).f0) ((rd_T25 x15 x17).f1) ((rd_T25 x15 x17).f2) ((rd_T25 x15 x17).f3) ((rd_T25 x15 x17).f4) ((rd_T25 x15 x17).f5) ((rd_T25 x15 x17).f6) (wrap64 (x1 - 1))).bind fun t157 => (if t157 = true then (pred_parts.l0 k x1 x15 x16 (wrap64 (x17 + 1))) else (some false))) else (none)) else (none)) else (some true)
def pred_parts.f : Nat → Int → ByteArray → Int → Int → ByteArray → List ByteArray → List (S25) → Int → Option (Bool)
 | 0, _, _, _, _, _, _, _, _ => none
 | k + 1, a0_0, a0_1, a0_2, a0_3, a0_4, l0_5, l0_6, a1 => if a1 = 0 then (pred_parts.j0 k a1 true a0_0 a0_1 a0_2 a0_3 a0_4 l0_5 l0_6) else ((pred_part.f k a0_0 a0_1 a0_2 a0_3 a0_4 l0_5 l0_6).bind fun t154 => (pred_parts.j0 k a1 (!t154) a0_0 a0_1 a0_2 a0_3 a0_4 l0_5 l0_6))
end
theorem pred_parts.mono_l : ∀ k, (∀ y0 y1 y2 y3 y4 y5 y6 y7, LeO (pred_parts.f k y0 y1 y2 y3 y4 y5 y6 y7) (pred_parts.f (k + 1) y0 y1 y2 y3 y4 y5 y6 y7)) ∧ (∀ y0 y1 y2 y3 y4 y5 y6 y7 y8, LeO (pred_parts.j0 k y0 y1 y2 y3 y4 y5 y6 y7 y8) (pred_parts.j0 (k + 1) y0 y1 y2 y3 y4 y5 y6 y7 y8)) ∧ (∀ y0 y1 y2 y3, LeO (pred_parts.l0 k y0 y1 y2 y3) (pred_parts.l0 (k + 1) y0 y1 y2 y3))
 | 0 => ⟨fun _ _ _ _ _ _ _ _ r h => by simp [pred_parts.f] at h, fun _ _ _ _ _ _ _ _ _ r h => by simp [pred_parts.j0] at h, fun _ _ _ _ r h => by simp [pred_parts.l0] at h⟩
 | k + 1 => by
  obtain ⟨ih0, ih1, ih2⟩ := pred_parts.mono_l k
  refine ⟨?_, ?_, ?_⟩
  ·intro y0 y1 y2 y3 y4 y5 y6 y7
   unfold pred_parts.f
   repeat' first
   | (with_reducible exact ih0 _ _ _ _ _ _ _ _)
   | (with_reducible exact ih1 _ _ _ _ _ _ _ _ _)
   | (with_reducible exact ih2 _ _ _ _)
   | (with_reducible exact pred_part.mono _ _ _ _ _ _ _ _)
   | (with_reducible exact LeO.refl _)
   | (with_reducible exact LeO.none _)
   | (with_reducible refine LeO.ite ?_ ?_)
   | (with_reducible refine LeO.bind ?_ (fun _ => ?_))
   | exact ih0 _ _ _ _ _ _ _ _
   | exact ih1 _ _ _ _ _ _ _ _ _
   | exact ih2 _ _ _ _
   | exact pred_part.mono _ _ _ _ _ _ _ _
   | exact LeO.none _
   | refine LeO.ite ?_ ?_
   | refine LeO.bind ?_ (fun _ => ?_)
  ·intro y0 y1 y2 y3 y4 y5 y6 y7 y8
   unfold pred_parts.j0
   repeat' first
   | (with_reducible exact ih0 _ _ _ _ _ _ _ _)
   | (with_reducible exact ih1 _ _ _ _ _ _ _ _ _)
   | (with_reducible exact ih2 _ _ _ _)
   | (with_reducible exact pred_part.mono _ _ _ _ _ _ _ _)
   | (with_reducible exact LeO.refl _)
   | (with_reducible exact LeO.none _)
   | (with_reducible refine LeO.ite ?_ ?_)
   | (with_reducible refine LeO.bind ?_ (fun _ => ?_))
   | exact ih0 _ _ _ _ _ _ _ _
   | exact ih1 _ _ _ _ _ _ _ _ _
   | exact ih2 _ _ _ _
   | exact pred_part.mono _ _ _ _ _ _ _ _
   | exact LeO.none _
   | refine LeO.ite ?_ ?_
   | refine LeO.bind ?_ (fun _ => ?_)
  intro y0 y1 y2 y3
  unfold pred_parts.l0
  repeat' first
  | (with_reducible exact ih0 _ _ _ _ _ _ _ _)
  | (with_reducible exact ih1 _ _ _ _ _ _ _ _ _)
  | (with_reducible exact ih2 _ _ _ _)
  | (with_reducible exact pred_part.mono _ _ _ _ _ _ _ _)
  | (with_reducible exact LeO.refl _)
  | (with_reducible exact LeO.none _)
  | (with_reducible refine LeO.ite ?_ ?_)
  | (with_reducible refine LeO.bind ?_ (fun _ => ?_))
  | exact ih0 _ _ _ _ _ _ _ _
  | exact ih1 _ _ _ _ _ _ _ _ _
  | exact ih2 _ _ _ _
  | exact pred_part.mono _ _ _ _ _ _ _ _
  | exact LeO.none _
  | refine LeO.ite ?_ ?_
  | refine LeO.bind ?_ (fun _ => ?_)
theorem pred_parts.mono : ∀ a0 a1 a2 a3 a4 a5 a6 a7 k, LeO (pred_parts.f k a0 a1 a2 a3 a4 a5 a6 a7) (pred_parts.f (k + 1) a0 a1 a2 a3 a4 a5 a6 a7) := by
 intro a0 a1 a2 a3 a4 a5 a6 a7 k
 obtain ⟨ih0, ih1, ih2⟩ := pred_parts.mono_l k
 exact ih0 a0 a1 a2 a3 a4 a5 a6 a7
set_option maxHeartbeats 8000000 in
set_option maxRecDepth 100000 in
theorem pred_parts.calls (k : Nat) : ∀ (a0_0 : Int) (a0_1 : ByteArray) (a0_2 : Int) (a0_3 : Int) (a0_4 : ByteArray) (A0_5 : Option Addr) (c0_5 : Nat) (l0_5 : List ByteArray) (A0_6 : Option Addr) (c0_6 : Nat) (l0_6 : List (S25)) (a1 : Int) (r : Bool) (w : World) (hr0_5 : Kd.C Kd.string w A0_5 l0_5.length l0_5) (hc0_5 : l0_5.length ≤ c0_5) (hr0_6 : Kd.C k25 w A0_6 l0_6.length l0_6) (hc0_6 : l0_6.length ≤ c0_6) (h : pred_parts.f k a0_0 a0_1 a0_2 a0_3 a0_4 l0_5 l0_6 a1 = some r),
  Calls Try.prog 25 #[.agg #[.int .i64 a0_0, .string a0_1, .int .i64 a0_2, .int .i64 a0_3, .string a0_4, .slice A0_5 l0_5.length c0_5, .slice A0_6 l0_6.length c0_6], .int .i64 a1] w fun e w' => e = .returned (.bool r) ∧ Below w.heap.size w w' := by
 induction k using Nat.strongRecOn with
 | _ k ih =>
 intro a0_0 a0_1 a0_2 a0_3 a0_4 A0_5 c0_5 l0_5 A0_6 c0_6 l0_6 a1 r w hr0_5 hc0_5 hr0_6 hc0_6 h
 cases k with
 | zero => exact absurd h (by simp [pred_parts.f])
 | succ k =>
 simp only [pred_parts.f] at h
 have hu25 := Try.underlying25
 have HR0_5 := zM hr0_5
 have HC0_5 := zM hc0_5
 clear hr0_5 hc0_5
 have HR0_6 := zM hr0_6
 have HC0_6 := zM hc0_6
 clear hr0_6 hc0_6
 have HB := zM (Below.refl w.heap.size w)
 have H : (if a1 = 0 then (pred_parts.j0 k a1 true a0_0 a0_1 a0_2 a0_3 a0_4 l0_5 l0_6) else ((pred_part.f k a0_0 a0_1 a0_2 a0_3 a0_4 l0_5 l0_6).bind fun t154 => (pred_parts.j0 k a1 (!t154) a0_0 a0_1 a0_2 a0_3 a0_4 l0_5 l0_6))) = some r := h
 clear h
 have HC3 := zM H
 clear H
 go_enter Try.func25, Try.ntmps25
 go_upto_region 1 with (first | ((with_reducible refine gate_dst (N := 2) rfl ?_); refine box_event ?hg (N := 2) ?hd (cs := #[.int .i64 a0_0, .string a0_1, .int .i64 a0_2, .int .i64 a0_3, .string a0_4, .slice A0_5 l0_5.length c0_5, .slice A0_6 l0_6.length c0_6]) (t := 25) ?hr ?_; (case hd => rfl); (case hg => rfl); (case hr => first | (go_simp; done) | (go_simp; rfl)); intro gb153 hg w4 hbox hb; have BK153 := zM (hbox); have GW153 := zM ((by rw [hg]; exact (below_size (mB HB.out)) : w.heap.size ≤ gb153)); replace HB := zM (below_step (mB HB.out) hb); have GE153 := GW153; clear hb hbox hg))
 (try simp only [Act.put, List.setIfInBounds_toArray, List.set_cons_zero, List.set_cons_succ])
 go_cut [13] (fun v13 wc => ∃ (kq : Nat) (x13_2 : Bool), v13 = .bool x13_2 ∧ Aside0 (pred_parts.j0 kq a1 x13_2 a0_0 a0_1 a0_2 a0_3 a0_4 l0_5 l0_6 = some r) ∧ Aside0 (kq ≤ k) ∧ Aside0 (wc.heap[gb153]? = some (.cells #[.int .i64 a0_0, .string a0_1, .int .i64 a0_2, .int .i64 a0_3, .string a0_4, (.slice A0_5 l0_5.length c0_5), (.slice A0_6 l0_6.length c0_6)] 25 (0, 0))) ∧ Aside0 (Below w.heap.size w wc))
 case first =>
  have H := HC3.out
  clear HC3
  by_cases c5 : a1 = 0
  ·rw [if_pos c5] at H
   have c5b0 : (a1 == 0) = true := beq_iff_eq.mpr c5
   have c5b1 : (a1 != 0) = false := bne_eq_false_iff_eq.mpr c5
   clear c5
   (first | rw [c5b0] | rw [c5b1] | (simp only [i64_w, i32_w]; rw [c5b0]) | skip)
   have H' := Aside0.mk H
   clear H
   go_wp2
   go_meet
   case rel => exact ⟨_, (true), ya, H', ⟨by first | omega | exact Nat.le_refl _⟩, ⟨mK BK153.out⟩, ⟨mZ⟩⟩
  rw [if_neg c5] at H
  have c5b0 : (a1 == 0) = false := beq_eq_false_iff_ne.mpr c5
  have c5b1 : (a1 != 0) = true := bne_iff_ne.mpr c5
  (first | rw [c5b0] | rw [c5b1] | (simp only [i64_w, i32_w]; rw [c5b0]) | skip)
  replace H := Option.bind_eq_some_iff.mp H
  obtain ⟨t154, A60, H⟩ := H
  try dsimp only at H
  have A6 := zM A60
  clear A60
  have H' := Aside0.mk H
  clear H
  obtain ⟨hcz7_0, hcz7_1, hcz7_2, hcz7_3, hcz7_4, hcz7_5, hcz7_6, hfz7_0, hfz7_1, hfz7_2, hfz7_3, hfz7_4, hfz7_5, hfz7_6⟩ := cells_7 BK153.out
  go_wp2_with (first | (go_at_call 39; (with_reducible refine (pred_part.calls k a0_0 a0_1 a0_2 a0_3 a0_4 _ _ l0_5 _ _ l0_6 t154 _ ?side1 ?side2 ?side3 ?side4 A6.out).mono ?_); (case side1 => exact zC (Kd.C_below HR0_5.out HB.out)); (case side2 => first | exact HC0_5.out | exact Kd.V_mono HC0_5.out (fun k_ hk_ => by grind)); (case side3 => exact zC (Kd.C_below HR0_6.out HB.out)); (case side4 => first | exact HC0_6.out | exact Kd.V_mono HC0_6.out (fun k_ hk_ => by grind)); rintro e w8 ⟨rfl, hb⟩; replace BK153 := zK BK153 hb; replace HB := zM (below_step mZ hb); (try clear hb)))
  go_meet
  case rel => exact ⟨_, (!t154), ya, H', ⟨by first | omega | exact Nat.le_refl _⟩, ⟨mK BK153.out⟩, ⟨mZ⟩⟩
 clear HC3
 try clear c5
 try clear c5b0
 try clear c5b1
 try clear hcz7_0
 try clear hcz7_1
 try clear hcz7_2
 try clear hcz7_3
 try clear hcz7_4
 try clear hcz7_5
 try clear hcz7_6
 try clear hfz7_0
 try clear hfz7_1
 try clear hfz7_2
 try clear hfz7_3
 try clear hfz7_4
 try clear hfz7_5
 try clear hfz7_6
 obtain ⟨kq, x13_2, rfl, HA, HJ2, BK153, HB⟩ := hcut
 cases kq with
 | zero => exact absurd HA.out (by simp [pred_parts.j0])
 | succ kj2 =>
  have H := HA.out
  clear HA
  simp only [pred_parts.j0] at H
  by_cases c9 : x13_2 = true
  ·subst c9
   rw [if_pos rfl] at H
   obtain rfl := Option.some.inj H
   go_wp2
   go_ret
   exact ⟨by first | rfl | (simp [errW_none, errW_some] <;> rfl) | (simp [*, errW_none, errW_some] <;> rfl), mZ⟩
  replace c9 := Bool.eq_false_iff.mpr c9
  subst c9
  rw [if_neg (show ¬ (false = true) by decide)] at H
  have H' := Aside0.mk H
  clear H
  obtain ⟨hcz10_0, hcz10_1, hcz10_2, hcz10_3, hcz10_4, hcz10_5, hcz10_6, hfz10_0, hfz10_1, hfz10_2, hfz10_3, hfz10_4, hfz10_5, hfz10_6⟩ := cells_7 BK153.out
  go_wp2
  go_loopg [17] kj2 (fun kq v17 w' => ∃ (x17_2 : Int), v17 = .int .i64 x17_2 ∧ Aside0 (pred_parts.l0 kq a1 l0_6 (l0_6.length : Int) x17_2 = some r) ∧ Aside0 (kq ≤ kj2) ∧ Aside0 (w'.heap[gb153]? = some (.cells #[.int .i64 a0_0, .string a0_1, .int .i64 a0_2, .int .i64 a0_3, .string a0_4, (.slice A0_5 l0_5.length c0_5), (.slice A0_6 l0_6.length c0_6)] 25 (0, 0))) ∧ Aside0 (Below w.heap.size w w'))
  case atStart => exact ⟨(0), ya, H', ⟨Nat.le_refl _⟩, ⟨mK BK153.out⟩, ⟨mZ⟩⟩
  case round =>
   clear H'
   try clear c5
   try clear c5b0
   try clear c5b1
   try clear c9
   try clear hcz10_0
   try clear hcz10_1
   try clear hcz10_2
   try clear hcz10_3
   try clear hcz10_4
   try clear hcz10_5
   try clear hcz10_6
   try clear hcz7_0
   try clear hcz7_1
   try clear hcz7_2
   try clear hcz7_3
   try clear hcz7_4
   try clear hcz7_5
   try clear hcz7_6
   try clear hfz10_0
   try clear hfz10_1
   try clear hfz10_2
   try clear hfz10_3
   try clear hfz10_4
   try clear hfz10_5
   try clear hfz10_6
   try clear hfz7_0
   try clear hfz7_1
   try clear hfz7_2
   try clear hfz7_3
   try clear hfz7_4
   try clear hfz7_5
   try clear hfz7_6
   try clear BK153
   obtain ⟨x17_2, rfl, HA, HK2, BK153, HB⟩ := hrel
   cases gk with
   | zero => exact absurd HA.out (by simp [pred_parts.l0])
   | succ k2 =>
    have H := HA.out
    clear HA
    simp only [pred_parts.l0] at H
    by_cases c11 : x17_2 < (l0_6.length : Int)
    ·rw [if_pos c11] at H
     have c11b0 : decide (x17_2 < (l0_6.length : Int)) = true := decide_eq_true c11
     clear c11
     by_cases c12 : 0 ≤ x17_2
     ·rw [if_pos c12] at H
      have c12b0 : decide (0 ≤ x17_2) = true := decide_eq_true c12
      clear c12
      by_cases c13 : x17_2 < (l0_6.length : Int)
      ·rw [if_pos c13] at H
       have c13b0 : decide (x17_2 < (l0_6.length : Int)) = true := decide_eq_true c13
       clear c13
       replace H := Option.bind_eq_some_iff.mp H
       obtain ⟨t157, A140, H⟩ := H
       try dsimp only at H
       have A14 := zM A140
       clear A140
       by_cases c15 : t157 = true
       ·subst c15
        rw [if_pos rfl] at H
        have H' := Aside0.mk H
        clear H
        have p155 : 0 ≤ (x17_2 : Int) := zA
        have q155 : x17_2 < (l0_6.length : Int) := zA
        obtain ⟨ad155, A155_5, c155_5, A155_6, c155_6, e155, hx155_0, hx155_1, hx155_2, hx155_3, hx155_4, hx155_5, hx155_6, hl155_5, hi155_5, hl155_6, hi155_6⟩ := at_T25 HR0_6.out x17_2 p155 q155
        cases e155
        replace hx155_0 := zH HB hx155_0
        replace hx155_1 := zH HB hx155_1
        replace hx155_2 := zH HB hx155_2
        replace hx155_3 := zH HB hx155_3
        replace hx155_4 := zH HB hx155_4
        replace hx155_5 := zH HB hx155_5
        replace hx155_6 := zH HB hx155_6
        have HR155_5 := zM hi155_5
        have HC155_5 := zM hl155_5
        clear hi155_5 hl155_5
        have HR155_6 := zM hi155_6
        have HC155_6 := zM hl155_6
        clear hi155_6 hl155_6
        replace p155 := eq_true p155
        replace q155 := eq_true q155
        go_wp2_with (first | ((with_reducible refine gate_dst (N := 6) rfl ?_); refine box_event ?hg (N := 6) ?hd (cs := #[.int .i64 0, .string (⟨#[]⟩ : ByteArray), .int .i64 0, .int .i64 0, .string (⟨#[]⟩ : ByteArray), .slice none 0 0, .slice none 0 0]) (t := 25) ?hr ?_; (case hd => rfl); (case hg => rfl); (case hr => first | (go_simp; done) | (go_simp; rfl)); intro gb156 hg w16 hbox hb; have BK156 := zM (hbox); have GW156 := zM ((by rw [hg]; exact (below_size mZ) : w.heap.size ≤ gb156)); replace HB := zM (below_step mZ hb); have GE156 := GW156; have NB153_156 := zL BK153 hg; have NB156_153 := zG BK153 hg; replace BK153 := zK BK153 hb; clear hb hbox hg; have hnb17 := NB156_153.out; have hnc17 := NB153_156.out; obtain ⟨hcz18_0, hcz18_1, hcz18_2, hcz18_3, hcz18_4, hcz18_5, hcz18_6, hfz18_0, hfz18_1, hfz18_2, hfz18_3, hfz18_4, hfz18_5, hfz18_6⟩ := cells_7 BK156.out) | ((with_reducible refine gate_callee (f := 25) rfl ?_); refine goesL_ (some 24) rfl rfl Try.func25 (by kernel_rfl) rfl #[.agg #[.int .i64 ((rd_T25 l0_6 x17_2).f0), .string ((rd_T25 l0_6 x17_2).f1), .int .i64 ((rd_T25 l0_6 x17_2).f2), .int .i64 ((rd_T25 l0_6 x17_2).f3), .string ((rd_T25 l0_6 x17_2).f4), .slice A155_5 ((rd_T25 l0_6 x17_2).f5).length c155_5, .slice A155_6 ((rd_T25 l0_6 x17_2).f6).length c155_6], .int .i64 (wrap64 (a1 - 1))] rfl yb ?_; (with_reducible refine (ih k2 (by have := HJ2.out; have := HK2.out; omega) ((rd_T25 l0_6 x17_2).f0) ((rd_T25 l0_6 x17_2).f1) ((rd_T25 l0_6 x17_2).f2) ((rd_T25 l0_6 x17_2).f3) ((rd_T25 l0_6 x17_2).f4) _ _ ((rd_T25 l0_6 x17_2).f5) _ _ ((rd_T25 l0_6 x17_2).f6) (wrap64 (a1 - 1)) true _ ?side1 ?side2 ?side3 ?side4 A14.out).mono ?_); (case side1 => exact Kd.C_below HR155_5.out mZ); (case side2 => first | exact HC155_5.out | exact Kd.V_mono HC155_5.out (fun k_ hk_ => by grind)); (case side3 => exact Kd.C_below HR155_6.out mZ); (case side4 => first | exact HC155_6.out | exact Kd.V_mono HC155_6.out (fun k_ hk_ => by grind)); rintro e w19 ⟨rfl, hb⟩; refine ⟨_, rfl, ?_⟩; replace BK153 := zM (blk_below (zF BK153.out NB153_156.out) hb); replace BK156 := zP7 BK156 hb; replace HB := zM (below_step mZ hb); (try clear hb)))
        go_roundg k2
        case measure => have := HJ2.out; have := HK2.out; omega
        case rel => exact ⟨(wrap64 (x17_2 + 1)), ya, H', ⟨by have := HJ2.out; have := HK2.out; omega⟩, ⟨mK BK153.out⟩, ⟨mZ⟩⟩
       replace c15 := Bool.eq_false_iff.mpr c15
       subst c15
       rw [if_neg (show ¬ (false = true) by decide)] at H
       obtain rfl := Option.some.inj H
       have p155 : 0 ≤ (x17_2 : Int) := zA
       have q155 : x17_2 < (l0_6.length : Int) := zA
       obtain ⟨ad155, A155_5, c155_5, A155_6, c155_6, e155, hx155_0, hx155_1, hx155_2, hx155_3, hx155_4, hx155_5, hx155_6, hl155_5, hi155_5, hl155_6, hi155_6⟩ := at_T25 HR0_6.out x17_2 p155 q155
       cases e155
       replace hx155_0 := zH HB hx155_0
       replace hx155_1 := zH HB hx155_1
       replace hx155_2 := zH HB hx155_2
       replace hx155_3 := zH HB hx155_3
       replace hx155_4 := zH HB hx155_4
       replace hx155_5 := zH HB hx155_5
       replace hx155_6 := zH HB hx155_6
       have HR155_5 := zM hi155_5
       have HC155_5 := zM hl155_5
       clear hi155_5 hl155_5
       have HR155_6 := zM hi155_6
       have HC155_6 := zM hl155_6
       clear hi155_6 hl155_6
       replace p155 := eq_true p155
       replace q155 := eq_true q155
       go_wp2_with (first | ((with_reducible refine gate_dst (N := 6) rfl ?_); refine box_event ?hg (N := 6) ?hd (cs := #[.int .i64 0, .string (⟨#[]⟩ : ByteArray), .int .i64 0, .int .i64 0, .string (⟨#[]⟩ : ByteArray), .slice none 0 0, .slice none 0 0]) (t := 25) ?hr ?_; (case hd => rfl); (case hg => rfl); (case hr => first | (go_simp; done) | (go_simp; rfl)); intro gb156 hg w20 hbox hb; have BK156 := zM (hbox); have GW156 := zM ((by rw [hg]; exact (below_size mZ) : w.heap.size ≤ gb156)); replace HB := zM (below_step mZ hb); have GE156 := GW156; have NB153_156 := zL BK153 hg; have NB156_153 := zG BK153 hg; replace BK153 := zK BK153 hb; clear hb hbox hg; have hnb21 := NB156_153.out; have hnc21 := NB153_156.out; obtain ⟨hcz22_0, hcz22_1, hcz22_2, hcz22_3, hcz22_4, hcz22_5, hcz22_6, hfz22_0, hfz22_1, hfz22_2, hfz22_3, hfz22_4, hfz22_5, hfz22_6⟩ := cells_7 BK156.out) | ((with_reducible refine gate_callee (f := 25) rfl ?_); refine goesL_ (some 24) rfl rfl Try.func25 (by kernel_rfl) rfl #[.agg #[.int .i64 ((rd_T25 l0_6 x17_2).f0), .string ((rd_T25 l0_6 x17_2).f1), .int .i64 ((rd_T25 l0_6 x17_2).f2), .int .i64 ((rd_T25 l0_6 x17_2).f3), .string ((rd_T25 l0_6 x17_2).f4), .slice A155_5 ((rd_T25 l0_6 x17_2).f5).length c155_5, .slice A155_6 ((rd_T25 l0_6 x17_2).f6).length c155_6], .int .i64 (wrap64 (a1 - 1))] rfl yb ?_; (with_reducible refine (ih k2 (by have := HJ2.out; have := HK2.out; omega) ((rd_T25 l0_6 x17_2).f0) ((rd_T25 l0_6 x17_2).f1) ((rd_T25 l0_6 x17_2).f2) ((rd_T25 l0_6 x17_2).f3) ((rd_T25 l0_6 x17_2).f4) _ _ ((rd_T25 l0_6 x17_2).f5) _ _ ((rd_T25 l0_6 x17_2).f6) (wrap64 (a1 - 1)) false _ ?side1 ?side2 ?side3 ?side4 A14.out).mono ?_); (case side1 => exact Kd.C_below HR155_5.out mZ); (case side2 => first | exact HC155_5.out | exact Kd.V_mono HC155_5.out (fun k_ hk_ => by grind)); (case side3 => exact Kd.C_below HR155_6.out mZ); (case side4 => first | exact HC155_6.out | exact Kd.V_mono HC155_6.out (fun k_ hk_ => by grind)); rintro e w23 ⟨rfl, hb⟩; refine ⟨_, rfl, ?_⟩; replace BK153 := zM (blk_below (zF BK153.out NB153_156.out) hb); replace BK156 := zP7 BK156 hb; replace HB := zM (below_step mZ hb); (try clear hb)))
       go_ret
       exact ⟨by first | rfl | (simp [errW_none, errW_some] <;> rfl) | (simp [*, errW_none, errW_some] <;> rfl), mZ⟩
      rw [if_neg c13] at H
      exact absurd H (by simp)
     rw [if_neg c12] at H
     exact absurd H (by simp)
    rw [if_neg c11] at H
    have c11b0 : decide (x17_2 < (l0_6.length : Int)) = false := decide_eq_false c11
    clear c11
    obtain rfl := Option.some.inj H
    go_wp2
    go_ret
    exact ⟨by first | rfl | (simp [errW_none, errW_some] <;> rfl) | (simp [*, errW_none, errW_some] <;> rfl), mZ⟩

/-! ### pred_Right: function 8 -/
def pred_Right.f (k : Nat) (a0_0 : Int) (a0_1 : ByteArray) (a0_2 : Int) (a0_3 : Int) (a0_4 : ByteArray) (l0_5 : List ByteArray) (l0_6 : List (S25)) : Option (Bool) := (pred_Size.f k a0_0 a0_1 a0_2 a0_3 a0_4 l0_5 l0_6).bind fun t159 => (if t159 ≤ 40 then ((pred_parts.f k a0_0 a0_1 a0_2 a0_3 a0_4 l0_5 l0_6 6).bind fun t160 => (some t160)) else (some false))
theorem pred_Right.mono : ∀ a0 a1 a2 a3 a4 a5 a6 k, LeO (pred_Right.f k a0 a1 a2 a3 a4 a5 a6) (pred_Right.f (k + 1) a0 a1 a2 a3 a4 a5 a6) := by
 intro a0 a1 a2 a3 a4 a5 a6 k
 unfold pred_Right.f
 repeat' first
   | (with_reducible exact pred_Size.mono _ _ _ _ _ _ _ _)
   | (with_reducible exact pred_parts.mono _ _ _ _ _ _ _ _ _)
   | (with_reducible exact LeO.refl _)
   | (with_reducible exact LeO.none _)
   | (with_reducible refine LeO.ite ?_ ?_)
   | (with_reducible refine LeO.bind ?_ (fun _ => ?_))
   | exact pred_Size.mono _ _ _ _ _ _ _ _
   | exact pred_parts.mono _ _ _ _ _ _ _ _ _
   | exact LeO.none _
   | refine LeO.ite ?_ ?_
   | refine LeO.bind ?_ (fun _ => ?_)
set_option maxHeartbeats 8000000 in
set_option maxRecDepth 100000 in
theorem pred_Right.calls (k : Nat) (a0_0 : Int) (a0_1 : ByteArray) (a0_2 : Int) (a0_3 : Int) (a0_4 : ByteArray) (A0_5 : Option Addr) (c0_5 : Nat) (l0_5 : List ByteArray) (A0_6 : Option Addr) (c0_6 : Nat) (l0_6 : List (S25)) (r : Bool) (w : World) (hr0_5 : Kd.C Kd.string w A0_5 l0_5.length l0_5) (hc0_5 : l0_5.length ≤ c0_5) (hr0_6 : Kd.C k25 w A0_6 l0_6.length l0_6) (hc0_6 : l0_6.length ≤ c0_6) (h : pred_Right.f k a0_0 a0_1 a0_2 a0_3 a0_4 l0_5 l0_6 = some r) :
  Calls Try.prog 8 #[.agg #[.int .i64 a0_0, .string a0_1, .int .i64 a0_2, .int .i64 a0_3, .string a0_4, .slice A0_5 l0_5.length c0_5, .slice A0_6 l0_6.length c0_6]] w fun e w' => e = .returned (.bool r) ∧ Below w.heap.size w w' := by
 have hu25 := Try.underlying25
 have HR0_5 := zM hr0_5
 have HC0_5 := zM hc0_5
 clear hr0_5 hc0_5
 have HR0_6 := zM hr0_6
 have HC0_6 := zM hc0_6
 clear hr0_6 hc0_6
 have HB := zM (Below.refl w.heap.size w)
 have H : ((pred_Size.f k a0_0 a0_1 a0_2 a0_3 a0_4 l0_5 l0_6).bind fun t159 => (if t159 ≤ 40 then ((pred_parts.f k a0_0 a0_1 a0_2 a0_3 a0_4 l0_5 l0_6 6).bind fun t160 => (some t160)) else (some false))) = some r := h
 clear h
 replace H := Option.bind_eq_some_iff.mp H
 obtain ⟨t159, A20, H⟩ := H
 try dsimp only at H
 have A2 := zM A20
 clear A20
 by_cases c3 : t159 ≤ 40
 ·rw [if_pos c3] at H
  have c3b0 : decide (t159 ≤ 40) = true := decide_eq_true c3
  clear c3
  replace H := Option.bind_eq_some_iff.mp H
  obtain ⟨t160, A40, H⟩ := H
  try dsimp only at H
  have A4 := zM A40
  clear A40
  obtain rfl := Option.some.inj H
  go_enter Try.func8, Try.ntmps8
  go_wp2_with (first | ((with_reducible refine gate_dst (N := 1) rfl ?_); refine box_event ?hg (N := 1) ?hd (cs := #[.int .i64 a0_0, .string a0_1, .int .i64 a0_2, .int .i64 a0_3, .string a0_4, .slice A0_5 l0_5.length c0_5, .slice A0_6 l0_6.length c0_6]) (t := 25) ?hr ?_; (case hd => rfl); (case hg => rfl); (case hr => first | (go_simp; done) | (go_simp; rfl)); intro gb158 hg w5 hbox hb; have BK158 := zM (hbox); have GW158 := zM ((by rw [hg]; exact (below_size (mB HB.out)) : w.heap.size ≤ gb158)); replace HB := zM (below_step (mB HB.out) hb); have GE158 := GW158; clear hb hbox hg; obtain ⟨hcz6_0, hcz6_1, hcz6_2, hcz6_3, hcz6_4, hcz6_5, hcz6_6, hfz6_0, hfz6_1, hfz6_2, hfz6_3, hfz6_4, hfz6_5, hfz6_6⟩ := cells_7 BK158.out) | ((with_reducible refine gate_callee (f := 20) rfl ?_); refine goesL_ (some 4) rfl rfl Try.func20 (by kernel_rfl) rfl #[.agg #[.int .i64 a0_0, .string a0_1, .int .i64 a0_2, .int .i64 a0_3, .string a0_4, .slice A0_5 l0_5.length c0_5, .slice A0_6 l0_6.length c0_6]] rfl yb ?_; (with_reducible refine (pred_Size.calls k a0_0 a0_1 a0_2 a0_3 a0_4 _ _ l0_5 _ _ l0_6 t159 _ ?side1 ?side2 ?side3 ?side4 A2.out).mono ?_); (case side1 => exact zC (Kd.C_below HR0_5.out HB.out)); (case side2 => first | exact HC0_5.out | exact Kd.V_mono HC0_5.out (fun k_ hk_ => by grind)); (case side3 => exact zC (Kd.C_below HR0_6.out HB.out)); (case side4 => first | exact HC0_6.out | exact Kd.V_mono HC0_6.out (fun k_ hk_ => by grind)); rintro e w7 ⟨rfl, hb⟩; refine ⟨_, rfl, ?_⟩; replace BK158 := zK BK158 hb; replace HB := zM (below_step mZ hb); (try clear hb); obtain ⟨hcz8_0, hcz8_1, hcz8_2, hcz8_3, hcz8_4, hcz8_5, hcz8_6, hfz8_0, hfz8_1, hfz8_2, hfz8_3, hfz8_4, hfz8_5, hfz8_6⟩ := cells_7 BK158.out) | (go_at_call 25; (with_reducible refine (pred_parts.calls k a0_0 a0_1 a0_2 a0_3 a0_4 _ _ l0_5 _ _ l0_6 6 t160 _ ?side1 ?side2 ?side3 ?side4 A4.out).mono ?_); (case side1 => exact zC (Kd.C_below HR0_5.out HB.out)); (case side2 => first | exact HC0_5.out | exact Kd.V_mono HC0_5.out (fun k_ hk_ => by grind)); (case side3 => exact zC (Kd.C_below HR0_6.out HB.out)); (case side4 => first | exact HC0_6.out | exact Kd.V_mono HC0_6.out (fun k_ hk_ => by grind)); rintro e w9 ⟨rfl, hb⟩; replace BK158 := zK BK158 hb; replace HB := zM (below_step mZ hb); (try clear hb)))
  go_ret
  exact ⟨by first | rfl | (simp [errW_none, errW_some] <;> rfl) | (simp [*, errW_none, errW_some] <;> rfl), mZ⟩
 rw [if_neg c3] at H
 have c3b0 : decide (t159 ≤ 40) = false := decide_eq_false c3
 clear c3
 obtain rfl := Option.some.inj H
 go_enter Try.func8, Try.ntmps8
 go_wp2_with (first | ((with_reducible refine gate_dst (N := 1) rfl ?_); refine box_event ?hg (N := 1) ?hd (cs := #[.int .i64 a0_0, .string a0_1, .int .i64 a0_2, .int .i64 a0_3, .string a0_4, .slice A0_5 l0_5.length c0_5, .slice A0_6 l0_6.length c0_6]) (t := 25) ?hr ?_; (case hd => rfl); (case hg => rfl); (case hr => first | (go_simp; done) | (go_simp; rfl)); intro gb158 hg w10 hbox hb; have BK158 := zM (hbox); have GW158 := zM ((by rw [hg]; exact (below_size (mB HB.out)) : w.heap.size ≤ gb158)); replace HB := zM (below_step (mB HB.out) hb); have GE158 := GW158; clear hb hbox hg; obtain ⟨hcz11_0, hcz11_1, hcz11_2, hcz11_3, hcz11_4, hcz11_5, hcz11_6, hfz11_0, hfz11_1, hfz11_2, hfz11_3, hfz11_4, hfz11_5, hfz11_6⟩ := cells_7 BK158.out) | ((with_reducible refine gate_callee (f := 20) rfl ?_); refine goesL_ (some 4) rfl rfl Try.func20 (by kernel_rfl) rfl #[.agg #[.int .i64 a0_0, .string a0_1, .int .i64 a0_2, .int .i64 a0_3, .string a0_4, .slice A0_5 l0_5.length c0_5, .slice A0_6 l0_6.length c0_6]] rfl yb ?_; (with_reducible refine (pred_Size.calls k a0_0 a0_1 a0_2 a0_3 a0_4 _ _ l0_5 _ _ l0_6 t159 _ ?side1 ?side2 ?side3 ?side4 A2.out).mono ?_); (case side1 => exact zC (Kd.C_below HR0_5.out HB.out)); (case side2 => first | exact HC0_5.out | exact Kd.V_mono HC0_5.out (fun k_ hk_ => by grind)); (case side3 => exact zC (Kd.C_below HR0_6.out HB.out)); (case side4 => first | exact HC0_6.out | exact Kd.V_mono HC0_6.out (fun k_ hk_ => by grind)); rintro e w12 ⟨rfl, hb⟩; refine ⟨_, rfl, ?_⟩; replace BK158 := zK BK158 hb; replace HB := zM (below_step mZ hb); (try clear hb)))
 go_ret
 exact ⟨by first | rfl | (simp [errW_none, errW_some] <;> rfl) | (simp [*, errW_none, errW_some] <;> rfl), mZ⟩

end Go.Proofs.Ytalpcnomfebdiaa.QPredRules
