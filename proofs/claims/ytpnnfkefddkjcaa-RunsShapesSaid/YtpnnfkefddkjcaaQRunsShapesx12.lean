-- Written by a program of this session (wip/myprint.py): the machine's side of a law
import Derived.Test.YtpnnfkefddkjcaaQRunsShapesx0
import Derived.Test.YtpnnfkefddkjcaaQRunsShapesx1
import Derived.Test.YtpnnfkefddkjcaaQRunsShapesx3
import Derived.Test.YtpnnfkefddkjcaaQRunsShapesx5
import Derived.Test.YtpnnfkefddkjcaaQRunsShapesx8
import Derived.Test.YtpnnfkefddkjcaaQRunsShapesx11
namespace Go.Proofs.Ytpnnfkefddkjcaa.QRunsShapes
open Go.RowKit Go.Proofs.YtpnnfkefddkjcaaW.PrintWords Go.Proofs.YtpnnfkefddkjcaaW.PrintLast Go.Proofs.YtpnnfkefddkjcaaW.PrintMore
attribute [local go_sem] max2_int min2_int max_two min_two max_three min_three max_four min_four   -- for this text's walks alone
set_option linter.unusedVariables false
set_option linter.unusedSimpArgs false

/-! ### columbariumlaw5_RunsShapes: function 6 -/
mutual
def columbariumlaw5_RunsShapes.j0 : Nat → Int → Int → Int → Bool → List Int → List Int → Bool → Option (Bool)
  | 0, _, _, _, _, _, _, _ => none
  | k + 1, x1, x2, x3, x4, x11, x14, x49 => if x49 = true then (some false) else (if (x14.length : Int) > 0 then ((columbariumbook_Within.f x2 0 (wrap64 ((x14.length : Int) - 1))).bind fun t282 => (if 0 ≤ t282 then (if t282 < (x14.length : Int) then ((some (x14.set (t282 : Int).toNat (Go.bits .xor .u8 (rd x14 t282) x3) : List Int)).bind fun y284 => (if x4 = true then (if t282 ≤ (x14.length : Int) then (columbariumlaw5_RunsShapes.j1 k x1 x11 (y284.take (t282 : Int).toNat)) else (none)) else (columbariumlaw5_RunsShapes.j1 k x1 x11 y284))) else (none)) else (none))) else (columbariumlaw5_RunsShapes.j1 k x1 x11 x14))
def columbariumlaw5_RunsShapes.j1 : Nat → Int → List Int → List Int → Option (Bool)
  | 0, _, _, _ => none
  | k + 1, x1, x11, x14 => (runs_Decode.f k x14 0 (x11.length : Int) x1).bind fun bt288 => ((columbariumref5_Decode.f k x14 0 (x11.length : Int) x1).bind fun bt293 => ((columbariumbook_Same_uint64.f k bt288.1 bt293.1).bind fun t298 => (if t298 = true then (if bt288.2.1 = bt293.2.1 then (if bt288.2.2 = bt293.2.2 then ((columbariumlaw5_known.f k).bind fun t299 => (some t299)) else (some false)) else (some false)) else (some false))))
end
def columbariumlaw5_RunsShapes.f (k : Nat) (l0 : List (S25)) (a1 : Int) (a2 : Int) (a3 : Int) (a4 : Bool) : Option (Bool) := (columbariumbook_Within.f a1 0 32).bind fun t270 => ((columbariumlaw5_shaped.f k l0 t270).bind fun t271 => ((runs_Encode.f k t271 t270).bind fun bt274 => ((columbariumref5_Encode.f k t271 t270).bind fun bt278 => (if (strOfNums bt274.1).toList = (strOfNums bt278.1).toList then (columbariumlaw5_RunsShapes.j0 k t270 a2 a3 a4 t271 bt278.1 (bt274.2 != bt278.2)) else (columbariumlaw5_RunsShapes.j0 k t270 a2 a3 a4 t271 bt278.1 true)))))
theorem columbariumlaw5_RunsShapes.mono_l : ∀ k, (∀ y0 y1 y2 y3 y4 y5 y6, LeO (columbariumlaw5_RunsShapes.j0 k y0 y1 y2 y3 y4 y5 y6) (columbariumlaw5_RunsShapes.j0 (k + 1) y0 y1 y2 y3 y4 y5 y6)) ∧ (∀ y0 y1 y2, LeO (columbariumlaw5_RunsShapes.j1 k y0 y1 y2) (columbariumlaw5_RunsShapes.j1 (k + 1) y0 y1 y2))
  | 0 => ⟨fun _ _ _ _ _ _ _ r h => by simp [columbariumlaw5_RunsShapes.j0] at h, fun _ _ _ r h => by simp [columbariumlaw5_RunsShapes.j1] at h⟩
  | k + 1 => by
    obtain ⟨ih0, ih1⟩ := columbariumlaw5_RunsShapes.mono_l k
    refine ⟨?_, ?_⟩
    · intro y0 y1 y2 y3 y4 y5 y6
      unfold columbariumlaw5_RunsShapes.j0
      repeat' first
      | (with_reducible exact ih0 _ _ _ _ _ _ _)
      | (with_reducible exact ih1 _ _ _)
      | (with_reducible exact columbariumbook_Same_uint64.mono _ _ _)
      | (with_reducible exact columbariumlaw5_known.mono _)
      | (with_reducible exact columbariumlaw5_shaped.mono _ _ _)
      | (with_reducible exact columbariumref5_Decode.mono _ _ _ _ _)
      | (with_reducible exact columbariumref5_Encode.mono _ _ _)
      | (with_reducible exact runs_Decode.mono _ _ _ _ _)
      | (with_reducible exact runs_Encode.mono _ _ _)
      | (with_reducible exact LeO.refl _)
      | (with_reducible exact LeO.none _)
      | (with_reducible refine LeO.ite ?_ ?_)
      | (with_reducible refine LeO.bind ?_ (fun _ => ?_))
      | exact ih0 _ _ _ _ _ _ _
      | exact ih1 _ _ _
      | exact columbariumbook_Same_uint64.mono _ _ _
      | exact columbariumlaw5_known.mono _
      | exact columbariumlaw5_shaped.mono _ _ _
      | exact columbariumref5_Decode.mono _ _ _ _ _
      | exact columbariumref5_Encode.mono _ _ _
      | exact runs_Decode.mono _ _ _ _ _
      | exact runs_Encode.mono _ _ _
      | exact LeO.none _
      | refine LeO.ite ?_ ?_
      | refine LeO.bind ?_ (fun _ => ?_)
    · intro y0 y1 y2
      unfold columbariumlaw5_RunsShapes.j1
      repeat' first
      | (with_reducible exact ih0 _ _ _ _ _ _ _)
      | (with_reducible exact ih1 _ _ _)
      | (with_reducible exact columbariumbook_Same_uint64.mono _ _ _)
      | (with_reducible exact columbariumlaw5_known.mono _)
      | (with_reducible exact columbariumlaw5_shaped.mono _ _ _)
      | (with_reducible exact columbariumref5_Decode.mono _ _ _ _ _)
      | (with_reducible exact columbariumref5_Encode.mono _ _ _)
      | (with_reducible exact runs_Decode.mono _ _ _ _ _)
      | (with_reducible exact runs_Encode.mono _ _ _)
      | (with_reducible exact LeO.refl _)
      | (with_reducible exact LeO.none _)
      | (with_reducible refine LeO.ite ?_ ?_)
      | (with_reducible refine LeO.bind ?_ (fun _ => ?_))
      | exact ih0 _ _ _ _ _ _ _
      | exact ih1 _ _ _
      | exact columbariumbook_Same_uint64.mono _ _ _
      | exact columbariumlaw5_known.mono _
      | exact columbariumlaw5_shaped.mono _ _ _
      | exact columbariumref5_Decode.mono _ _ _ _ _
      | exact columbariumref5_Encode.mono _ _ _
      | exact runs_Decode.mono _ _ _ _ _
      | exact runs_Encode.mono _ _ _
      | exact LeO.none _
      | refine LeO.ite ?_ ?_
      | refine LeO.bind ?_ (fun _ => ?_)
theorem columbariumlaw5_RunsShapes.mono : ∀ a0 a1 a2 a3 a4 k, LeO (columbariumlaw5_RunsShapes.f k a0 a1 a2 a3 a4) (columbariumlaw5_RunsShapes.f (k + 1) a0 a1 a2 a3 a4) := by
  intro a0 a1 a2 a3 a4 k
  obtain ⟨ih0, ih1⟩ := columbariumlaw5_RunsShapes.mono_l k
  unfold columbariumlaw5_RunsShapes.f
  repeat' first
      | (with_reducible exact ih0 _ _ _ _ _ _ _)
      | (with_reducible exact ih1 _ _ _)
      | (with_reducible exact columbariumbook_Same_uint64.mono _ _ _)
      | (with_reducible exact columbariumlaw5_known.mono _)
      | (with_reducible exact columbariumlaw5_shaped.mono _ _ _)
      | (with_reducible exact columbariumref5_Decode.mono _ _ _ _ _)
      | (with_reducible exact columbariumref5_Encode.mono _ _ _)
      | (with_reducible exact runs_Decode.mono _ _ _ _ _)
      | (with_reducible exact runs_Encode.mono _ _ _)
      | (with_reducible exact LeO.refl _)
      | (with_reducible exact LeO.none _)
      | (with_reducible refine LeO.ite ?_ ?_)
      | (with_reducible refine LeO.bind ?_ (fun _ => ?_))
      | exact ih0 _ _ _ _ _ _ _
      | exact ih1 _ _ _
      | exact columbariumbook_Same_uint64.mono _ _ _
      | exact columbariumlaw5_known.mono _
      | exact columbariumlaw5_shaped.mono _ _ _
      | exact columbariumref5_Decode.mono _ _ _ _ _
      | exact columbariumref5_Encode.mono _ _ _
      | exact runs_Decode.mono _ _ _ _ _
      | exact runs_Encode.mono _ _ _
      | exact LeO.none _
      | refine LeO.ite ?_ ?_
      | refine LeO.bind ?_ (fun _ => ?_)
set_option maxHeartbeats 8000000 in
set_option maxRecDepth 100000 in
theorem columbariumlaw5_RunsShapes.calls (k : Nat) (A0 : Option Addr) (c0 : Nat) (l0 : List (S25)) (a1 : Int) (a2 : Int) (a3 : Int) (a4 : Bool) (r : Bool) (w : World) (hr0 : Kd.C k25 w A0 l0.length l0) (hc0 : l0.length ≤ c0) (hrt_ : Aside0 (r = true)) (h : columbariumlaw5_RunsShapes.f k l0 a1 a2 a3 a4 = some r) :
    Calls Try.prog 6 #[.slice A0 l0.length c0, .int .i64 a1, .int .i64 a2, .int .u8 a3, .bool a4] w fun e w' => e = .returned (.bool r) ∧ Below w.heap.size w w' := by
  have HR0 := Aside0.mk hr0
  have HC0 := Aside0.mk hc0
  clear hr0 hc0
  have HB := Aside0.mk (Below.refl w.heap.size w)
  have H : ((columbariumbook_Within.f a1 0 32).bind fun t270 => ((columbariumlaw5_shaped.f k l0 t270).bind fun t271 => ((runs_Encode.f k t271 t270).bind fun bt274 => ((columbariumref5_Encode.f k t271 t270).bind fun bt278 => (if (strOfNums bt274.1).toList = (strOfNums bt278.1).toList then (columbariumlaw5_RunsShapes.j0 k t270 a2 a3 a4 t271 bt278.1 (bt274.2 != bt278.2)) else (columbariumlaw5_RunsShapes.j0 k t270 a2 a3 a4 t271 bt278.1 true)))))) = some r := h
  clear h
  replace H := Option.bind_eq_some_iff.mp H
  obtain ⟨t270, A60, H⟩ := H
  replace H : ((columbariumlaw5_shaped.f k l0 t270).bind fun t271 => ((runs_Encode.f k t271 t270).bind fun bt274 => ((columbariumref5_Encode.f k t271 t270).bind fun bt278 => (if (strOfNums bt274.1).toList = (strOfNums bt278.1).toList then (columbariumlaw5_RunsShapes.j0 k t270 a2 a3 a4 t271 bt278.1 (bt274.2 != bt278.2)) else (columbariumlaw5_RunsShapes.j0 k t270 a2 a3 a4 t271 bt278.1 true))))) = some r := H
  have A6 := Aside0.mk A60
  clear A60
  replace H := Option.bind_eq_some_iff.mp H
  obtain ⟨t271, A70, H⟩ := H
  replace H : ((runs_Encode.f k t271 t270).bind fun bt274 => ((columbariumref5_Encode.f k t271 t270).bind fun bt278 => (if (strOfNums bt274.1).toList = (strOfNums bt278.1).toList then (columbariumlaw5_RunsShapes.j0 k t270 a2 a3 a4 t271 bt278.1 (bt274.2 != bt278.2)) else (columbariumlaw5_RunsShapes.j0 k t270 a2 a3 a4 t271 bt278.1 true)))) = some r := H
  have A7 := Aside0.mk A70
  clear A70
  replace H := Option.bind_eq_some_iff.mp H
  obtain ⟨⟨t274, t275⟩, A80, H⟩ := H
  replace H : ((columbariumref5_Encode.f k t271 t270).bind fun bt278 => (if (strOfNums t274).toList = (strOfNums bt278.1).toList then (columbariumlaw5_RunsShapes.j0 k t270 a2 a3 a4 t271 bt278.1 (t275 != bt278.2)) else (columbariumlaw5_RunsShapes.j0 k t270 a2 a3 a4 t271 bt278.1 true))) = some r := H
  have A8 := Aside0.mk A80
  clear A80
  replace H := Option.bind_eq_some_iff.mp H
  obtain ⟨⟨t278, t279⟩, A90, H⟩ := H
  replace H : (if (strOfNums t274).toList = (strOfNums t278).toList then (columbariumlaw5_RunsShapes.j0 k t270 a2 a3 a4 t271 t278 (t275 != t279)) else (columbariumlaw5_RunsShapes.j0 k t270 a2 a3 a4 t271 t278 true)) = some r := H
  have A9 := Aside0.mk A90
  clear A90
  have HC10 := Aside0.mk H
  clear H
  go_enter Try.func6, Try.ntmps6
  go_upto_region 5 with (first | ((with_reducible refine gate_callee (f := 9) rfl ?_); refine goesL_ (some 24) rfl rfl Try.func9 (by kernel_rfl) rfl #[.int .i64 a1, .int .i64 0, .int .i64 32] rfl (by (try simp only [List.map_toArray, List.map_cons, List.map_nil]); first | done | rfl | (simp only [List.length_drop, List.length_take]; rfl)) ?_; (with_reducible refine (columbariumbook_Within.calls a1 0 32 t270 _ A6.out).mono ?_); rintro e w' ⟨rfl, ⟨nd, rfl⟩⟩; refine ⟨_, rfl, ?_⟩) | ((with_reducible refine gate_callee (f := 10) rfl ?_); refine goesL_ (some 27) rfl rfl Try.func10 (by kernel_rfl) rfl #[.slice A0 l0.length c0, .int .i64 t270] rfl (by (try simp only [List.map_toArray, List.map_cons, List.map_nil]); first | done | rfl | (simp only [List.length_drop, List.length_take]; rfl)) ?_; (with_reducible refine (columbariumlaw5_shaped.calls k _ _ l0 t270 t271 _ ?side1 ?side2 A7.out).mono ?_); (case side1 => repeat (first | exact HR0.out | (with_reducible refine Kd.C_alloc ?_ _) | (with_reducible refine Kd.C_drewN ?_ _) | (with_reducible refine Kd.C_drew ?_))); (case side2 => exact HC0.out); rintro e w11 ⟨v272, rfl, ho0, hb⟩; refine ⟨_, rfl, ?_⟩; have n0_ := Aside0.mk (Kd.R_lower ho0 (below_size (by repeat (first | (with_reducible first | exact HB.out | apply below_alloc | apply pw_below_drewN | apply below_drew1) | exact HB.out)))); have n1_ := Aside0.mk (below_step (by repeat (first | (with_reducible first | exact HB.out | apply below_alloc | apply pw_below_drewN | apply below_drew1) | exact HB.out)) hb); clear HB; have HO273 := n0_; have HB := n1_; clear n0_ n1_; (try clear hb); (try clear hb2); (try clear hk); (try clear hi); (try clear ho0); obtain ⟨Ao12, co12, eo12⟩ := Kd.R_slice HO273.out; subst eo12) | ((with_reducible refine gate_callee (f := 12) rfl ?_); refine goesL_ (some 31) rfl rfl Try.func12 (by kernel_rfl) rfl #[.slice Ao12 t271.length co12, .int .i64 t270] rfl (by (try simp only [List.map_toArray, List.map_cons, List.map_nil]); first | done | rfl | (simp only [List.length_drop, List.length_take]; rfl)) ?_; (with_reducible refine (runs_Encode.calls k _ _ t271 t270 t274 t275 _ ?side1 ?side2 A8.out).mono ?_); (case side1 => repeat (first | exact (Kd.R_reads' HO273.out).2.2 | (with_reducible refine Kd.C_alloc ?_ _) | (with_reducible refine Kd.C_drewN ?_ _) | (with_reducible refine Kd.C_drew ?_))); (case side2 => exact (Kd.R_reads' HO273.out).2.1); rintro e w13 ⟨v276, rfl, ho0, hb⟩; refine ⟨_, rfl, ?_⟩; have n0_ := Aside0.mk (Kd.R_below (by (with_reducible repeat (first | apply Kd.R_alloc | apply Kd.R_drewN | apply Kd.R_drew)); exact HO273.out) hb); have n1_ := Aside0.mk (Kd.R_lower ho0 (below_size (by repeat (first | (with_reducible first | exact HB.out | apply below_alloc | apply pw_below_drewN | apply below_drew1) | exact HB.out)))); have n2_ := Aside0.mk (below_step (by repeat (first | (with_reducible first | exact HB.out | apply below_alloc | apply pw_below_drewN | apply below_drew1) | exact HB.out)) hb); clear HO273; clear HB; have HO273 := n0_; have HO277 := n1_; have HB := n2_; clear n0_ n1_ n2_; (try clear hb); (try clear hb2); (try clear hk); (try clear hi); (try clear ho0)) | ((with_reducible refine gate_callee (f := 13) rfl ?_); refine goesL_ (some 37) rfl rfl Try.func13 (by kernel_rfl) rfl #[.slice Ao12 t271.length co12, .int .i64 t270] rfl (by (try simp only [List.map_toArray, List.map_cons, List.map_nil]); first | done | rfl | (simp only [List.length_drop, List.length_take]; rfl)) ?_; (with_reducible refine (columbariumref5_Encode.calls k _ _ t271 t270 t278 t279 _ ?side1 ?side2 A9.out).mono ?_); (case side1 => repeat (first | exact (Kd.R_reads' HO273.out).2.2 | (with_reducible refine Kd.C_alloc ?_ _) | (with_reducible refine Kd.C_drewN ?_ _) | (with_reducible refine Kd.C_drew ?_))); (case side2 => exact (Kd.R_reads' HO273.out).2.1); rintro e w14 ⟨v280, rfl, ho0, hb⟩; refine ⟨_, rfl, ?_⟩; have n0_ := Aside0.mk (Kd.R_below (by (with_reducible repeat (first | apply Kd.R_alloc | apply Kd.R_drewN | apply Kd.R_drew)); exact HO273.out) hb); have n1_ := Aside0.mk (Kd.R_elder' (by (with_reducible repeat (first | apply Kd.R_alloc | apply Kd.R_drewN | apply Kd.R_drew)); exact HO277.out) (Kd.R_base ho0) hb); have n2_ := Aside0.mk (Kd.R_lower (Kd.R_new' ho0 (Kd.R_lt (by (with_reducible repeat (first | apply Kd.R_alloc | apply Kd.R_drewN | apply Kd.R_drew)); exact HO277.out))) (below_size (by repeat (first | (with_reducible first | exact HB.out | apply below_alloc | apply pw_below_drewN | apply below_drew1) | exact HB.out)))); have n3_ := Aside0.mk (below_step (by repeat (first | (with_reducible first | exact HB.out | apply below_alloc | apply pw_below_drewN | apply below_drew1) | exact HB.out)) hb); clear HO273; clear HO277; clear HB; have HO273 := n0_; have HO277 := n1_; have HO281 := n2_; have HB := n3_; clear n0_ n1_ n2_ n3_; (try clear hb); (try clear hb2); (try clear hk); (try clear hi); (try clear ho0)))
  (try simp only [Act.put, List.setIfInBounds_toArray, List.set_cons_zero, List.set_cons_succ])
  go_cut [49] (fun v49 wc => ∃ (kq : Nat) (x49_9 : Bool), v49 = .bool x49_9 ∧ Aside0 (columbariumlaw5_RunsShapes.j0 kq t270 a2 a3 a4 t271 t278 x49_9 = some r) ∧ Aside0 (kq ≤ k) ∧ Aside0 (Kd.R (Kd.int .u64) 27 wc w.heap.size (fun _ => True) (.slice Ao12 t271.length co12) t271) ∧ Aside0 (Kd.R (Kd.int .u8) 5 wc w.heap.size (fun _ => True) v280 t278) ∧ Aside0 (Below w.heap.size w wc))
  case first =>
    have H := HC10.out
    clear HC10
    by_cases c15 : (strOfNums t274).toList = (strOfNums t278).toList
    · rw [if_pos c15] at H
      have c15b0 : ((strOfNums t274).toList == (strOfNums t278).toList) = true := beq_iff_eq.mpr c15
      have c15b1 : ((strOfNums t274).toList != (strOfNums t278).toList) = false := bne_eq_false_iff_eq.mpr c15
      clear c15
      (first | rw [c15b0] | rw [c15b1] | (simp only [i64_w, i32_w]; rw [c15b0]) | skip)
      have H' := Aside0.mk H
      clear H
      have hcv16 := own_string (P := Try.prog) Try.underlying29 Try.underlying5 Try.underlying9 (Kd.own_of_R HO277.out)
      have hcv17 := own_string (P := Try.prog) Try.underlying29 Try.underlying5 Try.underlying9 (Kd.own_of_R HO281.out)
      go_wp2
      go_meet
      case rel => exact ⟨_, ((t275 != t279)), (by first | rfl | (simp; done) | (simp [*]; done)), H', ⟨by first | omega | exact Nat.le_refl _⟩, ⟨by (with_reducible repeat (first | apply Kd.R_alloc | apply Kd.R_drewN | apply Kd.R_drew)); exact HO273.out⟩, ⟨by (with_reducible repeat (first | apply Kd.R_alloc | apply Kd.R_drewN | apply Kd.R_drew)); exact Kd.R_mono HO281.out (fun _ hk => trivial)⟩, ⟨by repeat (first | (with_reducible first | exact HB.out | apply below_alloc | apply pw_below_drewN | apply below_drew1) | exact HB.out)⟩⟩
    · rw [if_neg c15] at H
      have c15b0 : ((strOfNums t274).toList == (strOfNums t278).toList) = false := beq_eq_false_iff_ne.mpr c15
      have c15b1 : ((strOfNums t274).toList != (strOfNums t278).toList) = true := bne_iff_ne.mpr c15
      (first | rw [c15b0] | rw [c15b1] | (simp only [i64_w, i32_w]; rw [c15b0]) | skip)
      have H' := Aside0.mk H
      clear H
      have hcv18 := own_string (P := Try.prog) Try.underlying29 Try.underlying5 Try.underlying9 (Kd.own_of_R HO277.out)
      have hcv19 := own_string (P := Try.prog) Try.underlying29 Try.underlying5 Try.underlying9 (Kd.own_of_R HO281.out)
      go_wp2
      go_meet
      case rel => exact ⟨_, (true), (by first | rfl | (simp; done) | (simp [*]; done)), H', ⟨by first | omega | exact Nat.le_refl _⟩, ⟨by (with_reducible repeat (first | apply Kd.R_alloc | apply Kd.R_drewN | apply Kd.R_drew)); exact HO273.out⟩, ⟨by (with_reducible repeat (first | apply Kd.R_alloc | apply Kd.R_drewN | apply Kd.R_drew)); exact Kd.R_mono HO281.out (fun _ hk => trivial)⟩, ⟨by repeat (first | (with_reducible first | exact HB.out | apply below_alloc | apply pw_below_drewN | apply below_drew1) | exact HB.out)⟩⟩
  case rest =>
    clear HC10
    try clear c1
    try clear hcv1
    try clear p2
    try clear c6
    try clear c9
    try clear c10
    try clear c12
    try clear c13
    try clear c15
    try clear c15b0
    try clear c15b1
    try clear hcv16
    try clear hcv17
    try clear hcv18
    try clear hcv19
    obtain ⟨kq, x49_9, rfl, HA, HJ9, HO_11, HO_14, HB⟩ := hcut
    cases kq with
    | zero => exact absurd HA.out (by simp [columbariumlaw5_RunsShapes.j0])
    | succ kj9 =>
      have H := HA.out
      clear HA
      simp only [columbariumlaw5_RunsShapes.j0] at H
      by_cases c20 : x49_9 = true
      · subst c20
        have H1 : (some false) = some r := by rw [if_pos rfl] at H; exact H
        clear H
        have H := H1
        clear H1
        exact absurd ((Option.some.inj H).trans hrt_.out) (by decide)
      · replace c20 := Bool.eq_false_iff.mpr c20
        subst c20
        have H1 : (if (t278.length : Int) > 0 then ((columbariumbook_Within.f a2 0 (wrap64 ((t278.length : Int) - 1))).bind fun t282 => (if 0 ≤ t282 then (if t282 < (t278.length : Int) then ((some (t278.set (t282 : Int).toNat (Go.bits .xor .u8 (rd t278 t282) a3) : List Int)).bind fun y284 => (if a4 = true then (if t282 ≤ (t278.length : Int) then (columbariumlaw5_RunsShapes.j1 kj9 t270 t271 (y284.take (t282 : Int).toNat)) else (none)) else (columbariumlaw5_RunsShapes.j1 kj9 t270 t271 y284))) else (none)) else (none))) else (columbariumlaw5_RunsShapes.j1 kj9 t270 t271 t278)) = some r := by rw [if_neg (show ¬ (false = true) by decide)] at H; exact H
        clear H
        have H := H1
        clear H1
        have HC21 := Aside0.mk H
        clear H
        obtain ⟨Ao22, co22, eo22⟩ := Kd.R_slice HO_14.out
        subst eo22
        go_upto_if 52 with (fail)
        go_cut [14] (fun v14 wc => ∃ (kq : Nat) (x14_20 : List Int), Aside0 (columbariumlaw5_RunsShapes.j1 kq t270 t271 x14_20 = some r) ∧ Aside0 (kq ≤ kj9) ∧ Aside0 (Kd.R (Kd.int .u64) 27 wc w.heap.size (fun _ => True) (.slice Ao12 t271.length co12) t271) ∧ Aside0 (Kd.R (Kd.int .u8) 5 wc w.heap.size (fun _ => True) v14 x14_20) ∧ Aside0 (Below w.heap.size w wc))
        case first =>
          have H := HC21.out
          clear HC21
          by_cases c23 : (t278.length : Int) > 0
          · rw [if_pos c23] at H
            have c23b0 : decide (0 < (t278.length : Int)) = true := decide_eq_true c23
            have c23b1 : decide (0 < t278.length) = true := decide_eq_true (by omega)
            clear c23
            (first | rw [c23b0] | rw [c23b1] | (simp only [i64_w, i32_w]; rw [c23b0]) | skip)
            replace H := Option.bind_eq_some_iff.mp H
            obtain ⟨t282, A240, H⟩ := H
            replace H : (if 0 ≤ t282 then (if t282 < (t278.length : Int) then ((some (t278.set (t282 : Int).toNat (Go.bits .xor .u8 (rd t278 t282) a3) : List Int)).bind fun y284 => (if a4 = true then (if t282 ≤ (t278.length : Int) then (columbariumlaw5_RunsShapes.j1 kj9 t270 t271 (y284.take (t282 : Int).toNat)) else (none)) else (columbariumlaw5_RunsShapes.j1 kj9 t270 t271 y284))) else (none)) else (none)) = some r := H
            have A24 := Aside0.mk A240
            clear A240
            by_cases c25 : 0 ≤ t282
            · rw [if_pos c25] at H
              have c25b0 : decide (0 ≤ t282) = true := decide_eq_true c25
              clear c25
              by_cases c26 : t282 < (t278.length : Int)
              · rw [if_pos c26] at H
                have c26b0 : decide (t282 < (t278.length : Int)) = true := decide_eq_true c26
                clear c26
                obtain ⟨y284, hy284⟩ : ∃ y_ : List Int, y_ = (t278.set (t282 : Int).toNat (Go.bits .xor .u8 (rd t278 t282) a3)) := ⟨_, rfl⟩
                replace H : (if a4 = true then (if t282 ≤ (t278.length : Int) then (columbariumlaw5_RunsShapes.j1 kj9 t270 t271 (y284.take (t282 : Int).toNat)) else (none)) else (columbariumlaw5_RunsShapes.j1 kj9 t270 t271 y284)) = some r := by first | (rw [hy284]; with_reducible exact H) | (have H2_ := (Option.bind_some _ _).symm.trans H; rw [hy284]; with_reducible exact H2_) | (have H2_ := (Option.bind_some _ _).symm.trans H; with_reducible exact H2_) | with_reducible exact H | (rw [hy284]; exact H) | exact H
                have Ny284 := Aside0.mk hy284
                clear hy284
                by_cases c28 : a4 = true
                · subst c28
                  have H1 : (if t282 ≤ (t278.length : Int) then (columbariumlaw5_RunsShapes.j1 kj9 t270 t271 (y284.take (t282 : Int).toNat)) else (none)) = some r := by rw [if_pos rfl] at H; exact H
                  clear H
                  have H := H1
                  clear H1
                  by_cases c29 : t282 ≤ (t278.length : Int)
                  · rw [if_pos c29] at H
                    have c29b0 := eq_true c29
                    have c29b1 : decide (t282 ≤ (t278.length : Int)) = true := decide_eq_true c29
                    clear c29
                    obtain ⟨y285, hy285⟩ : ∃ y_ : List Int, y_ = (y284.take (t282 : Int).toNat) := ⟨_, rfl⟩
                    replace H : (columbariumlaw5_RunsShapes.j1 kj9 t270 t271 y285) = some r := by first | (rw [hy285]; with_reducible exact H) | (have H2_ := (Option.bind_some _ _).symm.trans H; rw [hy285]; with_reducible exact H2_) | (have H2_ := (Option.bind_some _ _).symm.trans H; with_reducible exact H2_) | with_reducible exact H | (rw [hy285]; exact H) | exact H
                    have Ny285 := Aside0.mk hy285
                    clear hy285
                    have H' := Aside0.mk H
                    clear H
                    go_wp2_with (first | ((with_reducible refine gate_callee (f := 9) rfl ?_); refine goesL_ (some 57) rfl rfl Try.func9 (by kernel_rfl) rfl #[.int .i64 a2, .int .i64 0, .int .i64 (wrap64 ((t278.length : Int) - 1))] rfl (by (try simp only [List.map_toArray, List.map_cons, List.map_nil]); first | done | rfl | (simp only [List.length_drop, List.length_take]; rfl)) ?_; (with_reducible refine (columbariumbook_Within.calls a2 0 (wrap64 ((t278.length : Int) - 1)) t282 _ A24.out).mono ?_); rintro e w' ⟨rfl, ⟨nd, rfl⟩⟩; refine ⟨_, rfl, ?_⟩; (try (rw [drewN_self wc]; generalize hq_ : World.drewN wc _ = wc; have n0_ : Aside0 (Kd.R (Kd.int .u64) 27 wc w.heap.size (fun _ => True) (.slice Ao12 t271.length co12) t271) := ⟨by rw [← hq_]; exact (by (with_reducible repeat (first | apply Kd.R_alloc | apply Kd.R_drewN | apply Kd.R_drew)); exact HO_11.out)⟩; have n1_ : Aside0 (Kd.R (Kd.int .u8) 5 wc w.heap.size (fun _ => True) (.slice Ao22 t278.length co22) t278) := ⟨by rw [← hq_]; exact (by (with_reducible repeat (first | apply Kd.R_alloc | apply Kd.R_drewN | apply Kd.R_drew)); exact HO_14.out)⟩; have n2_ : Aside0 (Below w.heap.size w wc) := ⟨by rw [← hq_]; exact (by repeat (first | (with_reducible first | exact HB.out | apply below_alloc | apply pw_below_drewN | apply below_drew1) | exact HB.out))⟩; clear HO_11 HO_14 HB hq_; have HO_11 := n0_; have HO_14 := n1_; have HB := n2_; clear n0_ n1_ n2_)); have p283 : 0 ≤ (t282 : Int) := of_decide_eq_true (by first | (with_reducible assumption) | assumption); have q283 : t282 < (t278.length : Int) := of_decide_eq_true (by first | (with_reducible assumption) | assumption); obtain ⟨ad283, e283, hx283_0⟩ := Kd.at_int (Kd.R_reads' HO_14.out).2.2 t282 p283 q283; cases e283; replace p283 := eq_true p283; replace q283 := eq_true q283; have p27 : 0 ≤ (t282 : Int) := of_decide_eq_true (by first | (with_reducible assumption) | assumption); have q27 : (t282 : Int) < ((t278.length : Int) : Int) := of_decide_eq_true (by first | (with_reducible assumption) | assumption); obtain ⟨go27, co27, eo27, gb27, gl27, cl27, HG27⟩ := Kd.R_form HO_14.out (by omega); (first | cases eo27 | (injection eo27 with ea_ en_ ec_; (first | subst ea_ | (injection ea_ with ea_; subst ea_)); subst ec_; clear en_)); have GB27 := Aside0.mk gb27; have GG27 := Aside0.mk HG27; clear gb27 gl27 HG27; (first | simp only [add_plain] at hx283_0 | skip); obtain ⟨hx27_0, hf27_0⟩ := Kd.R_celln 0 HO_14.out (t282 : Int) p27 q27; replace p27 := eq_true p27; replace q27 := eq_true q27; obtain ⟨hy30_, hz30_⟩ := Kd.R_celln 0 HO_14.out (t282 : Int) (of_decide_eq_true (by first | (with_reducible assumption) | assumption)) (of_decide_eq_true (by first | (with_reducible assumption) | assumption)); have HP30 := Kd.R_putg HO_14.out (t282 : Int) (Go.bits .xor .u8 (rd t278 t282) a3)) | ((with_reducible refine gate_store (t := 5) (p := 66) rfl ?_); refine store_event (t := 5) (p := 66) (v := ?vo_w31) (w1 := (wc.setCell ⟨go27, (t282 : Int).toNat, none⟩ (.int .u8 (Go.bits .xor .u8 (rd t278 t282) a3)))) ?hg ?ho ?hn ?hr ?_; (case ho => rfl); (case hg => rfl); (case hn => rfl); (case hr => first | (go_simp; done) | (go_simp; rfl)); intro w31 hw; have hg : wc.grownBy w31 (some go27) := (by rw [hw]; exact HP30.2); have hp_ : Kd.R (Kd.int .u8) 5 w31 w.heap.size (fun _ => True) (.slice (some ⟨go27, 0, none⟩) t278.length co22) y284 := (by rw [hw, Ny284.out]; exact HP30.1); clear HP30; have n0_ := Aside0.mk (Kd.R_over' (v := (.slice (some ⟨go27, 0, none⟩) t278.length co22)) (by (with_reducible repeat (first | apply Kd.R_alloc | apply Kd.R_drewN | apply Kd.R_drew)); exact HO_11.out) (Kd.R_typed HO_14.out) (by decide) hg); have n1_ := Aside0.mk (hp_); have n2_ := Aside0.mk ((by rw [hw]; exact below_set (HB.out) GB27.out : Below w.heap.size w w31)); clear HO_11; clear HO_14; clear HB; have HO_11 := n0_; have HO_14 := n1_; have HB := n2_; clear n0_ n1_ n2_; clear hg hw hp_; have q32 : (t282 : Int) ≤ ((t278.length : Int) : Int) := of_decide_eq_true (by first | (with_reducible assumption) | assumption); obtain ⟨i032, hi032, _, hsz32, _⟩ := info_parts info5; have hcut32 := cut_to (P := Try.prog) 29 5 .i64 Try.underlying29 hi032 (some ⟨go27, 0, none⟩) t278.length co22 t282 (of_decide_eq_true (by first | (with_reducible assumption) | assumption)) q32 (Kd.R_reads' HO_14.out).2.1; have hr32 := Kd.R_take (m := (t282 : Int).toNat) HO_14.out (by first | omega | (simp only [Ny284.out, List.length_set]; omega)); have hy32 : y285.length = (t282 : Int).toNat := (by rw [Ny285.out, List.length_take]; first | omega | (have e_ := (Kd.R_reads' HO_14.out).1; omega) | (simp only [Ny284.out, List.length_set]; omega)); rw [← Ny285.out] at hr32; rw [← hy32] at hr32 hcut32; clear hy32 hi032 hsz32 HO_14; have HO287 := Aside0.mk hr32; clear hr32; replace q32 := eq_true q32))
                    go_meet
                    case rel => exact ⟨_, (y285), H', ⟨by have := HJ9.out; first | omega | exact Nat.le_refl _⟩, ⟨by (with_reducible repeat (first | apply Kd.R_alloc | apply Kd.R_drewN | apply Kd.R_drew)); exact HO_11.out⟩, ⟨by (with_reducible repeat (first | apply Kd.R_alloc | apply Kd.R_drewN | apply Kd.R_drew)); exact HO287.out⟩, ⟨by repeat (first | (with_reducible first | exact HB.out | apply below_alloc | apply pw_below_drewN | apply below_drew1) | exact HB.out)⟩⟩
                  · rw [if_neg c29] at H
                    exact absurd H (by simp)
                · replace c28 := Bool.eq_false_iff.mpr c28
                  subst c28
                  have H1 : (columbariumlaw5_RunsShapes.j1 kj9 t270 t271 y284) = some r := by rw [if_neg (show ¬ (false = true) by decide)] at H; exact H
                  clear H
                  have H := H1
                  clear H1
                  have H' := Aside0.mk H
                  clear H
                  go_wp2_with (first | ((with_reducible refine gate_callee (f := 9) rfl ?_); refine goesL_ (some 57) rfl rfl Try.func9 (by kernel_rfl) rfl #[.int .i64 a2, .int .i64 0, .int .i64 (wrap64 ((t278.length : Int) - 1))] rfl (by (try simp only [List.map_toArray, List.map_cons, List.map_nil]); first | done | rfl | (simp only [List.length_drop, List.length_take]; rfl)) ?_; (with_reducible refine (columbariumbook_Within.calls a2 0 (wrap64 ((t278.length : Int) - 1)) t282 _ A24.out).mono ?_); rintro e w' ⟨rfl, ⟨nd, rfl⟩⟩; refine ⟨_, rfl, ?_⟩; (try (rw [drewN_self wc]; generalize hq_ : World.drewN wc _ = wc; have n0_ : Aside0 (Kd.R (Kd.int .u64) 27 wc w.heap.size (fun _ => True) (.slice Ao12 t271.length co12) t271) := ⟨by rw [← hq_]; exact (by (with_reducible repeat (first | apply Kd.R_alloc | apply Kd.R_drewN | apply Kd.R_drew)); exact HO_11.out)⟩; have n1_ : Aside0 (Kd.R (Kd.int .u8) 5 wc w.heap.size (fun _ => True) (.slice Ao22 t278.length co22) t278) := ⟨by rw [← hq_]; exact (by (with_reducible repeat (first | apply Kd.R_alloc | apply Kd.R_drewN | apply Kd.R_drew)); exact HO_14.out)⟩; have n2_ : Aside0 (Below w.heap.size w wc) := ⟨by rw [← hq_]; exact (by repeat (first | (with_reducible first | exact HB.out | apply below_alloc | apply pw_below_drewN | apply below_drew1) | exact HB.out))⟩; clear HO_11 HO_14 HB hq_; have HO_11 := n0_; have HO_14 := n1_; have HB := n2_; clear n0_ n1_ n2_)); have p283 : 0 ≤ (t282 : Int) := of_decide_eq_true (by first | (with_reducible assumption) | assumption); have q283 : t282 < (t278.length : Int) := of_decide_eq_true (by first | (with_reducible assumption) | assumption); obtain ⟨ad283, e283, hx283_0⟩ := Kd.at_int (Kd.R_reads' HO_14.out).2.2 t282 p283 q283; cases e283; replace p283 := eq_true p283; replace q283 := eq_true q283; have p27 : 0 ≤ (t282 : Int) := of_decide_eq_true (by first | (with_reducible assumption) | assumption); have q27 : (t282 : Int) < ((t278.length : Int) : Int) := of_decide_eq_true (by first | (with_reducible assumption) | assumption); obtain ⟨go27, co27, eo27, gb27, gl27, cl27, HG27⟩ := Kd.R_form HO_14.out (by omega); (first | cases eo27 | (injection eo27 with ea_ en_ ec_; (first | subst ea_ | (injection ea_ with ea_; subst ea_)); subst ec_; clear en_)); have GB27 := Aside0.mk gb27; have GG27 := Aside0.mk HG27; clear gb27 gl27 HG27; (first | simp only [add_plain] at hx283_0 | skip); obtain ⟨hx27_0, hf27_0⟩ := Kd.R_celln 0 HO_14.out (t282 : Int) p27 q27; replace p27 := eq_true p27; replace q27 := eq_true q27; obtain ⟨hy33_, hz33_⟩ := Kd.R_celln 0 HO_14.out (t282 : Int) (of_decide_eq_true (by first | (with_reducible assumption) | assumption)) (of_decide_eq_true (by first | (with_reducible assumption) | assumption)); have HP33 := Kd.R_putg HO_14.out (t282 : Int) (Go.bits .xor .u8 (rd t278 t282) a3)) | ((with_reducible refine gate_store (t := 5) (p := 66) rfl ?_); refine store_event (t := 5) (p := 66) (v := ?vo_w34) (w1 := (wc.setCell ⟨go27, (t282 : Int).toNat, none⟩ (.int .u8 (Go.bits .xor .u8 (rd t278 t282) a3)))) ?hg ?ho ?hn ?hr ?_; (case ho => rfl); (case hg => rfl); (case hn => rfl); (case hr => first | (go_simp; done) | (go_simp; rfl)); intro w34 hw; have hg : wc.grownBy w34 (some go27) := (by rw [hw]; exact HP33.2); have hp_ : Kd.R (Kd.int .u8) 5 w34 w.heap.size (fun _ => True) (.slice (some ⟨go27, 0, none⟩) t278.length co22) y284 := (by rw [hw, Ny284.out]; exact HP33.1); clear HP33; have n0_ := Aside0.mk (Kd.R_over' (v := (.slice (some ⟨go27, 0, none⟩) t278.length co22)) (by (with_reducible repeat (first | apply Kd.R_alloc | apply Kd.R_drewN | apply Kd.R_drew)); exact HO_11.out) (Kd.R_typed HO_14.out) (by decide) hg); have n1_ := Aside0.mk (hp_); have n2_ := Aside0.mk ((by rw [hw]; exact below_set (HB.out) GB27.out : Below w.heap.size w w34)); clear HO_11; clear HO_14; clear HB; have HO_11 := n0_; have HO_14 := n1_; have HB := n2_; clear n0_ n1_ n2_; clear hg hw hp_))
                  go_meet
                  case rel => exact ⟨_, (y284), H', ⟨by have := HJ9.out; first | omega | exact Nat.le_refl _⟩, ⟨by (with_reducible repeat (first | apply Kd.R_alloc | apply Kd.R_drewN | apply Kd.R_drew)); exact HO_11.out⟩, ⟨by (with_reducible repeat (first | apply Kd.R_alloc | apply Kd.R_drewN | apply Kd.R_drew)); exact HO_14.out⟩, ⟨by repeat (first | (with_reducible first | exact HB.out | apply below_alloc | apply pw_below_drewN | apply below_drew1) | exact HB.out)⟩⟩
              · rw [if_neg c26] at H
                exact absurd H (by simp)
            · rw [if_neg c25] at H
              exact absurd H (by simp)
          · rw [if_neg c23] at H
            have c23b0 : decide (0 < (t278.length : Int)) = false := decide_eq_false c23
            have c23b1 : decide (0 < t278.length) = false := decide_eq_false (by omega)
            clear c23
            (first | rw [c23b0] | rw [c23b1] | (simp only [i64_w, i32_w]; rw [c23b0]) | skip)
            have H' := Aside0.mk H
            clear H
            go_wp2
            go_meet
            case rel => exact ⟨_, (t278), H', ⟨by have := HJ9.out; first | omega | exact Nat.le_refl _⟩, ⟨by (with_reducible repeat (first | apply Kd.R_alloc | apply Kd.R_drewN | apply Kd.R_drew)); exact HO_11.out⟩, ⟨by (with_reducible repeat (first | apply Kd.R_alloc | apply Kd.R_drewN | apply Kd.R_drew)); exact HO_14.out⟩, ⟨by repeat (first | (with_reducible first | exact HB.out | apply below_alloc | apply pw_below_drewN | apply below_drew1) | exact HB.out)⟩⟩
        case rest =>
          clear HC21
          try clear c1
          try clear hcv1
          try clear c2
          try clear p2
          try clear q2
          try clear hx2
          try clear q3
          try clear c6
          try clear p6
          try clear c9
          try clear c10
          try clear c12
          try clear c13
          try clear c15
          try clear c15b0
          try clear c15b1
          try clear hcv16
          try clear hcv17
          try clear hcv18
          try clear hcv19
          try clear c20
          try clear c23
          try clear c23b0
          try clear c23b1
          try clear c25
          try clear c25b0
          try clear c26
          try clear c26b0
          try clear p27
          try clear q27
          try clear hx27
          try clear hf27
          try clear c28
          try clear p28
          try clear q28
          try clear hx28
          try clear c29
          try clear c29b0
          try clear c29b1
          try clear q32
          try clear hx27_0
          try clear hx283_0
          try clear p2
          try clear p27
          try clear p283
          try clear q27
          try clear q283
          try clear q32
          obtain ⟨kq, x14_20, HA, HJ20, HO_11, HO_14, HB⟩ := hcut
          cases kq with
          | zero => exact absurd HA.out (by simp [columbariumlaw5_RunsShapes.j1])
          | succ kj20 =>
            have H := HA.out
            clear HA
            simp only [columbariumlaw5_RunsShapes.j1] at H
            replace H := Option.bind_eq_some_iff.mp H
            obtain ⟨⟨t288, t291, t292⟩, A350, H⟩ := H
            replace H : ((columbariumref5_Decode.f kj20 x14_20 0 (t271.length : Int) t270).bind fun bt293 => ((columbariumbook_Same_uint64.f kj20 t288 bt293.1).bind fun t298 => (if t298 = true then (if t291 = bt293.2.1 then (if t292 = bt293.2.2 then ((columbariumlaw5_known.f kj20).bind fun t299 => (some t299)) else (some false)) else (some false)) else (some false)))) = some r := H
            have A35 := Aside0.mk A350
            clear A350
            replace H := Option.bind_eq_some_iff.mp H
            obtain ⟨⟨t293, t294, t295⟩, A360, H⟩ := H
            replace H : ((columbariumbook_Same_uint64.f kj20 t288 t293).bind fun t298 => (if t298 = true then (if t291 = t294 then (if t292 = t295 then ((columbariumlaw5_known.f kj20).bind fun t299 => (some t299)) else (some false)) else (some false)) else (some false))) = some r := H
            have A36 := Aside0.mk A360
            clear A360
            replace H := Option.bind_eq_some_iff.mp H
            obtain ⟨t298, A370, H⟩ := H
            replace H : (if t298 = true then (if t291 = t294 then (if t292 = t295 then ((columbariumlaw5_known.f kj20).bind fun t299 => (some t299)) else (some false)) else (some false)) else (some false)) = some r := H
            have A37 := Aside0.mk A370
            clear A370
            by_cases c38 : t298 = true
            · subst c38
              have H1 : (if t291 = t294 then (if t292 = t295 then ((columbariumlaw5_known.f kj20).bind fun t299 => (some t299)) else (some false)) else (some false)) = some r := by rw [if_pos rfl] at H; exact H
              clear H
              have H := H1
              clear H1
              by_cases c39 : t291 = t294
              · rw [if_pos c39] at H
                have c39b0 : (t291 == t294) = true := beq_iff_eq.mpr c39
                have c39b1 : (t291 != t294) = false := bne_eq_false_iff_eq.mpr c39
                clear c39
                by_cases c40 : t292 = t295
                · rw [if_pos c40] at H
                  have c40b0 : (t292 == t295) = true := beq_iff_eq.mpr c40
                  have c40b1 : (t292 != t295) = false := bne_eq_false_iff_eq.mpr c40
                  clear c40
                  replace H := Option.bind_eq_some_iff.mp H
                  obtain ⟨t299, A410, H⟩ := H
                  replace H : (some t299) = some r := H
                  have A41 := Aside0.mk A410
                  clear A410
                  obtain rfl := Option.some.inj H
                  obtain ⟨Ao42, co42, eo42⟩ := Kd.R_slice HO_14.out
                  subst eo42
                  go_wp2_with (first | ((with_reducible refine gate_callee (f := 14) rfl ?_); refine goesL_ (some 76) rfl rfl Try.func14 (by kernel_rfl) rfl #[.slice Ao42 x14_20.length co42, .int .i64 0, .int .i64 (t271.length : Int), .int .i64 t270] rfl (by (try simp only [List.map_toArray, List.map_cons, List.map_nil]); first | done | rfl | (simp only [List.length_drop, List.length_take]; rfl)) ?_; (with_reducible refine (runs_Decode.calls kj20 _ _ x14_20 0 (t271.length : Int) t270 t288 t291 t292 _ ?side1 ?side2 A35.out).mono ?_); (case side1 => repeat (first | exact (Kd.R_reads' HO_14.out).2.2 | (with_reducible refine Kd.C_alloc ?_ _) | (with_reducible refine Kd.C_drewN ?_ _) | (with_reducible refine Kd.C_drew ?_))); (case side2 => exact (Kd.R_reads' HO_14.out).2.1); rintro e w43 ⟨v289, rfl, ho0, hb⟩; refine ⟨_, rfl, ?_⟩; have n0_ := Aside0.mk (Kd.R_below (by (with_reducible repeat (first | apply Kd.R_alloc | apply Kd.R_drewN | apply Kd.R_drew)); exact HO_11.out) hb); have n1_ := Aside0.mk (Kd.R_below (by (with_reducible repeat (first | apply Kd.R_alloc | apply Kd.R_drewN | apply Kd.R_drew)); exact HO_14.out) hb); have n2_ := Aside0.mk (Kd.V_lower (Kd.V_mono (ok' := fun k_ => some k_ ≠ (.slice Ao12 t271.length co12 : Value).ownBlock ∧ some k_ ≠ (.slice Ao42 x14_20.length co42 : Value).ownBlock) ho0 (fun k_ hk_ => ⟨(Kd.fresh' (Kd.R_lt (by (with_reducible repeat (first | apply Kd.R_alloc | apply Kd.R_drewN | apply Kd.R_drew)); exact HO_11.out)) k_ hk_), (Kd.fresh' (Kd.R_lt (by (with_reducible repeat (first | apply Kd.R_alloc | apply Kd.R_drewN | apply Kd.R_drew)); exact HO_14.out)) k_ hk_)⟩)) (below_size (by repeat (first | (with_reducible first | exact HB.out | apply below_alloc | apply pw_below_drewN | apply below_drew1) | exact HB.out)))); have n3_ := Aside0.mk (below_step (by repeat (first | (with_reducible first | exact HB.out | apply below_alloc | apply pw_below_drewN | apply below_drew1) | exact HB.out)) hb); clear HO_11; clear HO_14; clear HB; have HO_11 := n0_; have HO_14 := n1_; have HO290 := n2_; have HB := n3_; clear n0_ n1_ n2_ n3_; (try clear hb); (try clear hb2); (try clear hk); (try clear hi); (try clear ho0)) | ((with_reducible refine gate_callee (f := 15) rfl ?_); refine goesL_ (some 85) rfl rfl Try.func15 (by kernel_rfl) rfl #[.slice Ao42 x14_20.length co42, .int .i64 0, .int .i64 (t271.length : Int), .int .i64 t270] rfl (by (try simp only [List.map_toArray, List.map_cons, List.map_nil]); first | done | rfl | (simp only [List.length_drop, List.length_take]; rfl)) ?_; (with_reducible refine (columbariumref5_Decode.calls kj20 _ _ x14_20 0 (t271.length : Int) t270 t293 t294 t295 _ ?side1 ?side2 A36.out).mono ?_); (case side1 => repeat (first | exact (Kd.R_reads' HO_14.out).2.2 | (with_reducible refine Kd.C_alloc ?_ _) | (with_reducible refine Kd.C_drewN ?_ _) | (with_reducible refine Kd.C_drew ?_))); (case side2 => exact (Kd.R_reads' HO_14.out).2.1); rintro e w44 ⟨v296, rfl, ho0, hb⟩; refine ⟨_, rfl, ?_⟩; have n0_ := Aside0.mk (Kd.R_elder' (by (with_reducible repeat (first | apply Kd.R_alloc | apply Kd.R_drewN | apply Kd.R_drew)); exact HO_11.out) (Kd.R_base ho0) hb); have n1_ := Aside0.mk (Kd.R_below (by (with_reducible repeat (first | apply Kd.R_alloc | apply Kd.R_drewN | apply Kd.R_drew)); exact HO_14.out) hb); have n2_ := Aside0.mk (Kd.V_elder' (by (with_reducible repeat (first | apply Kd.V_alloc | apply Kd.V_drewN | apply Kd.V_drew)); exact HO290.out) (Kd.R_base ho0) hb); have n3_ := Aside0.mk (Kd.R_lower (Kd.R_new' ho0 (Kd.R_lt (by (with_reducible repeat (first | apply Kd.R_alloc | apply Kd.R_drewN | apply Kd.R_drew)); exact HO_11.out))) (below_size (by repeat (first | (with_reducible first | exact HB.out | apply below_alloc | apply pw_below_drewN | apply below_drew1) | exact HB.out)))); have n4_ := Aside0.mk (below_step (by repeat (first | (with_reducible first | exact HB.out | apply below_alloc | apply pw_below_drewN | apply below_drew1) | exact HB.out)) hb); clear HO_11; clear HO_14; clear HO290; clear HB; have HO_11 := n0_; have HO_14 := n1_; have HO290 := n2_; have HO297 := n3_; have HB := n4_; clear n0_ n1_ n2_ n3_ n4_; (try clear hb); (try clear hb2); (try clear hk); (try clear hi); (try clear ho0); obtain ⟨Ao45, co45, eo45⟩ := Kd.V_slice HO290.out; subst eo45; obtain ⟨Ao46, co46, eo46⟩ := Kd.R_slice HO297.out; subst eo46) | ((with_reducible refine gate_callee (f := 16) rfl ?_); refine goesL_ (some 91) rfl rfl Try.func16 (by kernel_rfl) rfl #[.slice Ao45 t288.length co45, .slice Ao46 t293.length co46] rfl (by (try simp only [List.map_toArray, List.map_cons, List.map_nil]); first | done | rfl | (simp only [List.length_drop, List.length_take]; rfl)) ?_; (with_reducible refine (columbariumbook_Same_uint64.calls kj20 _ _ t288 _ _ t293 true _ ?side1 ?side2 ?side3 ?side4 A37.out).mono ?_); (case side1 => repeat (first | exact (Kd.V_reads' HO290.out).2.2 | (with_reducible refine Kd.C_alloc ?_ _) | (with_reducible refine Kd.C_drewN ?_ _) | (with_reducible refine Kd.C_drew ?_))); (case side2 => exact (Kd.V_reads' HO290.out).2.1); (case side3 => repeat (first | exact (Kd.R_reads' HO297.out).2.2 | (with_reducible refine Kd.C_alloc ?_ _) | (with_reducible refine Kd.C_drewN ?_ _) | (with_reducible refine Kd.C_drew ?_))); (case side4 => exact (Kd.R_reads' HO297.out).2.1); rintro e w' ⟨rfl, ⟨nd, rfl⟩⟩; refine ⟨_, rfl, ?_⟩) | (go_at_call 11; (with_reducible refine (columbariumlaw5_known.calls kj20  t299 _ A41.out).mono ?_); rintro e w47 ⟨rfl, hb⟩; have n0_ := Aside0.mk (Kd.R_below (by (with_reducible repeat (first | apply Kd.R_alloc | apply Kd.R_drewN | apply Kd.R_drew)); exact HO_11.out) hb); have n1_ := Aside0.mk (Kd.R_below (by (with_reducible repeat (first | apply Kd.R_alloc | apply Kd.R_drewN | apply Kd.R_drew)); exact HO_14.out) hb); have n2_ := Aside0.mk (Kd.V_below (by (with_reducible repeat (first | apply Kd.V_alloc | apply Kd.V_drewN | apply Kd.V_drew)); exact HO290.out) hb); have n3_ := Aside0.mk (Kd.R_below (by (with_reducible repeat (first | apply Kd.R_alloc | apply Kd.R_drewN | apply Kd.R_drew)); exact HO297.out) hb); have n4_ := Aside0.mk (below_step (by repeat (first | (with_reducible first | exact HB.out | apply below_alloc | apply pw_below_drewN | apply below_drew1) | exact HB.out)) hb); clear HO_11; clear HO_14; clear HO290; clear HO297; clear HB; have HO_11 := n0_; have HO_14 := n1_; have HO290 := n2_; have HO297 := n3_; have HB := n4_; clear n0_ n1_ n2_ n3_ n4_; (try clear hb); (try clear hb2); (try clear hk); (try clear hi)))
                  go_ret
                  exact ⟨by first | rfl | (simp [errW_none, errW_some] <;> rfl) | (simp [*, errW_none, errW_some] <;> rfl), by repeat (first | (with_reducible first | exact HB.out | apply below_alloc | apply pw_below_drewN | apply below_drew1) | exact HB.out)⟩
                · rw [if_neg c40] at H
                  have c40b0 : (t292 == t295) = false := beq_eq_false_iff_ne.mpr c40
                  have c40b1 : (t292 != t295) = true := bne_iff_ne.mpr c40
                  exact absurd ((Option.some.inj H).trans hrt_.out) (by decide)
              · rw [if_neg c39] at H
                have c39b0 : (t291 == t294) = false := beq_eq_false_iff_ne.mpr c39
                have c39b1 : (t291 != t294) = true := bne_iff_ne.mpr c39
                exact absurd ((Option.some.inj H).trans hrt_.out) (by decide)
            · replace c38 := Bool.eq_false_iff.mpr c38
              subst c38
              have H1 : (some false) = some r := by rw [if_neg (show ¬ (false = true) by decide)] at H; exact H
              clear H
              have H := H1
              clear H1
              exact absurd ((Option.some.inj H).trans hrt_.out) (by decide)

/-- THE ONE PURE STATEMENT of columbariumlaw5_RunsShapes: yours. -/
def columbariumlaw5_RunsShapes.Pure : Prop := ∀ (l0 : List (S25)) (a1 : Int) (a2 : Int) (a3 : Int) (a4 : Bool), l0.length ≤ maxLen → (∀ x ∈ l0, ((Lit.int .i64 x.f0).wf = true ∧ (Lit.int .i64 x.f1).wf = true)) → (Lit.int .i64 a1).wf = true → (Lit.int .i64 a2).wf = true → (Lit.int .u8 a3).wf = true → ∃ k, columbariumlaw5_RunsShapes.f k l0 a1 a2 a3 a4 = some true
theorem columbariumlaw5_RunsShapes.walk (P : columbariumlaw5_RunsShapes.Pure) (a0 : Option Addr) (cap0 : Nat) (l0 : List (S25)) (a1 : Int) (a2 : Int) (a3 : Int) (a4 : Bool) (w : World) (hr0 : Kd.C k25 w a0 l0.length l0) (hc0 : l0.length ≤ cap0) (hm0 : l0.length ≤ maxLen) (hw0 : ∀ x ∈ l0, ((Lit.int .i64 x.f0).wf = true ∧ (Lit.int .i64 x.f1).wf = true)) (w1 : (Lit.int .i64 a1).wf = true) (w2 : (Lit.int .i64 a2).wf = true) (w3 : (Lit.int .u8 a3).wf = true) :
    Calls Try.prog 6 #[.slice a0 l0.length cap0, .int .i64 a1, .int .i64 a2, .int .u8 a3, .bool a4] w fun e w' => e = .returned (.bool true) ∧ Below w.heap.size w w' := by
  obtain ⟨k, h⟩ := P l0 a1 a2 a3 a4 hm0 hw0 w1 w2 w3
  refine (columbariumlaw5_RunsShapes.calls k _ _ l0 a1 a2 a3 a4 true w hr0 hc0 ⟨rfl⟩ h).mono ?_
  rintro e w' ⟨rfl, hd⟩
  exact ⟨rfl, hd⟩

end Go.Proofs.Ytpnnfkefddkjcaa.QRunsShapes
