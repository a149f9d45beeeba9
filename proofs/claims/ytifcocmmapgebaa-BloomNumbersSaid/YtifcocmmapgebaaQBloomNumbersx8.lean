-- Written by a program of this session (wip/myprint.py): the machine's side of a law
import Derived.Test.YtifcocmmapgebaaQBloomNumbersx0
import Derived.Test.YtifcocmmapgebaaQBloomNumbersx4
import Derived.Test.YtifcocmmapgebaaQBloomNumbersx7
namespace Go.Proofs.Ytifcocmmapgebaa.QBloomNumbers
open Go.RowKit Go.Proofs.YtifcocmmapgebaaW.PrintWords Go.Proofs.YtifcocmmapgebaaW.PrintLast Go.Proofs.YtifcocmmapgebaaW.PrintMore
attribute [local go_sem] max2_int min2_int max_two min_two max_three min_three max_four min_four   -- for this text's walks alone
set_option linter.unusedVariables false
set_option linter.unusedSimpArgs false

/-! ### columbariumref9_Decode: function 22 -/
def columbariumref9_Decode.j0 : Nat → List Int → Int → Int → Bool → Option (Int × List Int × Int × Int)
 | 0, _, _, _, _ => none
 | k + 1, x0, x7, x8, x32 => if x32 = true then (some (0, ([] : List Int), 0, 12)) else (if (wrap64 ((x0.length : Int) - x8)) < (wrap64 (Int.tdiv (wrap64 (x7)) 8)) then (some (0, ([] : List Int), 0, 10)) else ((some (([] : List Int) : List Int)).bind fun y276 => (if 0 ≤ x8 then (if x8 ≤ (wrap64 (x8 + (wrap64 (Int.tdiv (wrap64 (x7)) 8)))) then (if (wrap64 (x8 + (wrap64 (Int.tdiv (wrap64 (x7)) 8)))) ≤ (x0.length : Int) then (if y276.length + ((x0.take ((wrap64 (x8 + (wrap64 (Int.tdiv (wrap64 (x7)) 8)))) : Int).toNat).drop (x8 : Int).toNat).length < 140737488355328 then (some (wrap64 (x7), (y276 ++ ((x0.take ((wrap64 (x8 + (wrap64 (Int.tdiv (wrap64 (x7)) 8)))) : Int).toNat).drop (x8 : Int).toNat)), wrap64 (x8 + (wrap64 (Int.tdiv (wrap64 (x7)) 8))), 0)) else (none)) else (none)) else (none)) else (none))))
def columbariumref9_Decode.f (k : Nat) (l0 : List Int) (a1 : Int) : Option (Int × List Int × Int × Int) := (columbariumref1_Get.f k l0 a1).bind fun bt269 => (if bt269.2.2 = 0 then (if bt269.1 > 65536 then (columbariumref9_Decode.j0 k l0 bt269.1 bt269.2.1 true) else (if 0 ≤ (IntKind.u64.wrap (Int.tdiv bt269.1 8)) then (if (IntKind.u64.wrap (Int.tdiv bt269.1 8) : Int).toNat ≤ 281474976710656 then ((columbariumref9_Right.f k (wrap64 (bt269.1)) (List.replicate (IntKind.u64.wrap (Int.tdiv bt269.1 8) : Int).toNat 0)).bind fun t275 => (columbariumref9_Decode.j0 k l0 bt269.1 bt269.2.1 (!t275))) else (none)) else (none))) else (some (0, ([] : List Int), 0, bt269.2.2)))
theorem columbariumref9_Decode.mono_l : ∀ k, (∀ y0 y1 y2 y3, LeO (columbariumref9_Decode.j0 k y0 y1 y2 y3) (columbariumref9_Decode.j0 (k + 1) y0 y1 y2 y3))
 | 0 => fun _ _ _ _ r h => by simp [columbariumref9_Decode.j0] at h
 | k + 1 => by
  have ih0 := columbariumref9_Decode.mono_l k
  ·intro y0 y1 y2 y3
   unfold columbariumref9_Decode.j0
   repeat' first
   | (with_reducible exact ih0 _ _ _ _)
   | (with_reducible exact columbariumref1_Get.mono _ _ _)
   | (with_reducible exact columbariumref9_Right.mono _ _ _)
   | (with_reducible exact LeO.refl _)
   | (with_reducible exact LeO.none _)
   | (with_reducible refine LeO.ite ?_ ?_)
   | (with_reducible refine LeO.bind ?_ (fun _ => ?_))
   | exact ih0 _ _ _ _
   | exact columbariumref1_Get.mono _ _ _
   | exact columbariumref9_Right.mono _ _ _
   | exact LeO.none _
   | refine LeO.ite ?_ ?_
   | refine LeO.bind ?_ (fun _ => ?_)
theorem columbariumref9_Decode.mono : ∀ a0 a1 k, LeO (columbariumref9_Decode.f k a0 a1) (columbariumref9_Decode.f (k + 1) a0 a1) := by
 intro a0 a1 k
 have ih0 := columbariumref9_Decode.mono_l k
 unfold columbariumref9_Decode.f
 repeat' first
   | (with_reducible exact ih0 _ _ _ _)
   | (with_reducible exact columbariumref1_Get.mono _ _ _)
   | (with_reducible exact columbariumref9_Right.mono _ _ _)
   | (with_reducible exact LeO.refl _)
   | (with_reducible exact LeO.none _)
   | (with_reducible refine LeO.ite ?_ ?_)
   | (with_reducible refine LeO.bind ?_ (fun _ => ?_))
   | exact ih0 _ _ _ _
   | exact columbariumref1_Get.mono _ _ _
   | exact columbariumref9_Right.mono _ _ _
   | exact LeO.none _
   | refine LeO.ite ?_ ?_
   | refine LeO.bind ?_ (fun _ => ?_)
set_option maxHeartbeats 8000000 in
set_option maxRecDepth 100000 in
theorem columbariumref9_Decode.calls (k : Nat) (A0 : Option Addr) (c0 : Nat) (l0 : List Int) (a1 : Int) (r1 : Int) (r2 : List Int) (r3 : Int) (r4 : Int) (w : World) (hr0 : Kd.C (Kd.int .u8) w A0 l0.length l0) (hc0 : l0.length ≤ c0) (h : columbariumref9_Decode.f k l0 a1 = some (r1, r2, r3, r4)) :
  Calls Try.prog 22 #[.slice A0 l0.length c0, .int .i64 a1] w fun e w' => ∃ v1_ : Value, e = .returned (.tuple #[.agg #[.int .i64 r1, v1_], .int .i64 r3, .int .i64 r4]) ∧ Kd.R (Kd.int .u8) 5 w' w.heap.size (fun _ => True) v1_ r2 ∧ Below w.heap.size w w' := by
 have hu36 := Try.underlying36
 have HR0 := Aside0.mk hr0
 have HC0 := Aside0.mk hc0
 clear hr0 hc0
 have HB := Aside0.mk (Below.refl w.heap.size w)
 have H : ((columbariumref1_Get.f k l0 a1).bind fun bt269 => (if bt269.2.2 = 0 then (if bt269.1 > 65536 then (columbariumref9_Decode.j0 k l0 bt269.1 bt269.2.1 true) else (if 0 ≤ (IntKind.u64.wrap (Int.tdiv bt269.1 8)) then (if (IntKind.u64.wrap (Int.tdiv bt269.1 8) : Int).toNat ≤ 281474976710656 then ((columbariumref9_Right.f k (wrap64 (bt269.1)) (List.replicate (IntKind.u64.wrap (Int.tdiv bt269.1 8) : Int).toNat 0)).bind fun t275 => (columbariumref9_Decode.j0 k l0 bt269.1 bt269.2.1 (!t275))) else (none)) else (none))) else (some (0, ([] : List Int), 0, bt269.2.2)))) = some (r1, r2, r3, r4) := h
 clear h
 replace H := Option.bind_eq_some_iff.mp H
 obtain ⟨⟨t269, t270, t271⟩, A30, H⟩ := H
 replace H : (if t271 = 0 then (if t269 > 65536 then (columbariumref9_Decode.j0 k l0 t269 t270 true) else (if 0 ≤ (IntKind.u64.wrap (Int.tdiv t269 8)) then (if (IntKind.u64.wrap (Int.tdiv t269 8) : Int).toNat ≤ 281474976710656 then ((columbariumref9_Right.f k (wrap64 (t269)) (List.replicate (IntKind.u64.wrap (Int.tdiv t269 8) : Int).toNat 0)).bind fun t275 => (columbariumref9_Decode.j0 k l0 t269 t270 (!t275))) else (none)) else (none))) else (some (0, ([] : List Int), 0, t271))) = some (r1, r2, r3, r4) := H
 have A3 := Aside0.mk A30
 clear A30
 by_cases c4 : t271 = 0
 ·rw [if_pos c4] at H
  have c4b0 : (t271 == 0) = true := beq_iff_eq.mpr c4
  have c4b1 : (t271 != 0) = false := bne_eq_false_iff_eq.mpr c4
  clear c4
  have HC5 := Aside0.mk H
  clear H
  go_enter Try.func22, Try.ntmps22
  go_upto_region 4 with (first | ((with_reducible refine gate_dst (N := 4) rfl ?_); (try (refine gate_guard (by rfl) ?_; dsimp only)); refine box_event ?hg (N := 4) ?hd (cs := #[.int .i64 0, .slice none 0 0]) (t := 36) ?hr ?_; (case hd => rfl); (case hg => rfl); (case hr => first | (go_simp; done) | (go_simp; rfl)); intro gb268 hg w6 hbox hb; have n0_ := Aside0.mk (below_step (mB HB.out) hb); have n1_ := Aside0.mk (hbox); have n2_ := Aside0.mk ((by rw [hg]; exact (below_size (mB HB.out)) : w.heap.size ≤ gb268)); have n3_ := n2_; clear HB; have HB := n0_; have BK268 := n1_; have GW268 := n2_; have GE268 := n3_; clear n0_ n1_ n2_ n3_; clear hb hbox hg) | ((with_reducible refine gate_callee (f := 36) rfl ?_); refine goesL_ (some 13) rfl rfl Try.func36 (by kernel_rfl) rfl #[.slice A0 l0.length c0, .int .i64 a1] rfl (by (try simp only [List.map_toArray, List.map_cons, List.map_nil]); first | done | rfl | (simp only [List.length_drop, List.length_take]; rfl)) ?_; (with_reducible refine (columbariumref1_Get.calls k _ _ l0 a1 t269 t270 t271 _ ?side1 ?side2 A3.out).mono ?_); (case side1 => repeat (first | exact (Kd.C_below HR0.out HB.out) | (with_reducible refine Kd.C_alloc ?_ _) | (with_reducible refine Kd.C_drewN ?_ _) | (with_reducible refine Kd.C_drew ?_))); (case side2 => exact HC0.out); rintro e w' ⟨rfl, ⟨nd, rfl⟩⟩; refine ⟨_, rfl, ?_⟩))
  (try simp only [Act.put, List.setIfInBounds_toArray, List.set_cons_zero, List.set_cons_succ])
  go_cut [32] (fun v32 wc => ∃ (kq : Nat) (x32_4 : Bool), v32 = .bool x32_4 ∧ Aside0 (columbariumref9_Decode.j0 kq l0 t269 t270 x32_4 = some (r1, r2, r3, r4)) ∧ Aside0 (kq ≤ k) ∧ Aside0 (wc.heap[gb268]? = some (.cells #[.int .i64 0, (.slice none 0 0)] 36 (0, 0))) ∧ Aside0 (Below w.heap.size w wc))
  case first =>
   have H := HC5.out
   clear HC5
   by_cases c7 : t269 > 65536
   ·rw [if_pos c7] at H
    have c7b0 : decide (65536 < t269) = true := decide_eq_true c7
    clear c7
    (first | rw [c7b0] | rw [c7b1] | (simp only [i64_w, i32_w]; rw [c7b0]) | skip)
    have H' := Aside0.mk H
    clear H
    go_wp2
    go_meet
    case rel => exact ⟨_, (true), (by first | rfl | (simp; done) | (simp [*]; done)), H', ⟨by first | omega | exact Nat.le_refl _⟩, ⟨mK BK268.out⟩, ⟨by repeat (first | (with_reducible first | exact HB.out | apply below_alloc | apply pw_below_drewN | apply below_drew1 | refine below_set ?_ GE268.out) | exact HB.out)⟩⟩
   ·rw [if_neg c7] at H
    have c7b0 : decide (65536 < t269) = false := decide_eq_false c7
    clear c7
    (first | rw [c7b0] | rw [c7b1] | (simp only [i64_w, i32_w]; rw [c7b0]) | skip)
    obtain ⟨ji8, hji8⟩ : ∃ j_ : Int, (IntKind.u64.wrap (Int.tdiv t269 8)) = j_ := ⟨_, rfl⟩
    replace H : (if 0 ≤ (ji8) then (if (ji8 : Int).toNat ≤ 281474976710656 then ((columbariumref9_Right.f k (wrap64 (t269)) (List.replicate (ji8 : Int).toNat 0)).bind fun t275 => (columbariumref9_Decode.j0 k l0 t269 t270 (!t275))) else (none)) else (none)) = some (r1, r2, r3, r4) := by first | (rw [hji8] at H; exact H) | (simp only [hji8] at H ⊢; exact H)
    by_cases c9 : 0 ≤ (ji8)
    ·rw [if_pos c9] at H
     have c9b0 := eq_true c9
     have c9b1 : decide (0 ≤ (ji8)) = true := decide_eq_true c9
     clear c9
     by_cases c10 : (ji8 : Int).toNat ≤ 281474976710656
     ·rw [if_pos c10] at H
      have c10b0 := eq_true c10
      have c10b1 : decide ((ji8 : Int).toNat ≤ 281474976710656) = true := decide_eq_true c10
      clear c10
      obtain ⟨y272, hy272⟩ : ∃ y_ : List Int, y_ = (List.replicate (ji8 : Int).toNat 0) := ⟨_, rfl⟩
      replace H : ((columbariumref9_Right.f k (wrap64 (t269)) y272).bind fun t275 => (columbariumref9_Decode.j0 k l0 t269 t270 (!t275))) = some (r1, r2, r3, r4) := by first | (rw [hy272]; with_reducible exact H) | (have H2_ := (Option.bind_some _ _).symm.trans H; rw [hy272]; with_reducible exact H2_) | (have H2_ := (Option.bind_some _ _).symm.trans H; with_reducible exact H2_) | with_reducible exact H | (rw [hy272]; exact H) | exact H
      have Ny272 := Aside0.mk hy272
      clear hy272
      replace H := Option.bind_eq_some_iff.mp H
      obtain ⟨t275, A110, H⟩ := H
      replace H : (columbariumref9_Decode.j0 k l0 t269 t270 (!t275)) = some (r1, r2, r3, r4) := H
      have A11 := Aside0.mk A110
      clear A110
      have H' := Aside0.mk H
      clear H
      go_wp2_with (first | ((with_reducible refine gate_dst (N := 28) rfl ?_); (try (refine gate_guard (by rfl) ?_; dsimp only)); refine R_make_u64 (Kd.int .u8) _ 5 rfl (N := 28) rfl 24 _ _ rfl ji8 rfl rfl Try.underlying24 (.int .u8 0) 1 info5 rfl (by decide) (by omega) 0 (ok := fun _ => True) (okp := fun _ => True) rfl (fun _ hk => hk) trivial (of_decide_eq_true (by first | (with_reducible assumption) | assumption)) (Nat.le_trans (Nat.mul_le_mul_right _ (of_decide_eq_true (by first | (with_reducible assumption) | assumption) : ji8.toNat ≤ 281474976710656)) (by omega)) (Below.refl _ _) (Nat.le_refl _) ?_; intro v273 w12 ho13 hb hg_ hnew_; clear hg_ hnew_; (first | rw [← Ny272.out] at ho13 | (simp only [Int.reduceToNat] at ho13; rw [← Ny272.out] at ho13)); have n0_ := Aside0.mk (Kd.R_lower ho13 (below_size (by repeat (first | (with_reducible first | exact HB.out | apply below_alloc | apply pw_below_drewN | apply below_drew1 | refine below_set ?_ GE268.out) | exact HB.out)))); have n1_ := Aside0.mk (blk_below (g := gb268) (o := .cells #[.int .i64 0, .slice none 0 0] 36 (0, 0)) (mK BK268.out) hb); have n2_ := Aside0.mk (below_step (by repeat (first | (with_reducible first | exact HB.out | apply below_alloc | apply pw_below_drewN | apply below_drew1 | refine below_set ?_ GE268.out) | exact HB.out)) hb); clear BK268; clear HB; have HO274 := n0_; have BK268 := n1_; have HB := n2_; clear n0_ n1_ n2_; clear hb ho13; obtain ⟨Ao14, co14, eo14⟩ := Kd.R_slice HO274.out; subst eo14) | (go_at_call 19; (with_reducible refine (columbariumref9_Right.calls k (wrap64 (t269)) _ _ y272 t275 _ ?side1 ?side2 A11.out).mono ?_); (case side1 => repeat (first | exact (Kd.R_reads' HO274.out).2.2 | (with_reducible refine Kd.C_alloc ?_ _) | (with_reducible refine Kd.C_drewN ?_ _) | (with_reducible refine Kd.C_drew ?_))); (case side2 => exact (Kd.R_reads' HO274.out).2.1); rintro e w15 ⟨rfl, hb⟩; have n0_ := Aside0.mk (Kd.R_below (mR HO274.out) hb); have n1_ := Aside0.mk (blk_below (g := gb268) (o := .cells #[.int .i64 0, .slice none 0 0] 36 (0, 0)) (mK BK268.out) hb); have n2_ := Aside0.mk (below_step (by repeat (first | (with_reducible first | exact HB.out | apply below_alloc | apply pw_below_drewN | apply below_drew1 | refine below_set ?_ GE268.out) | exact HB.out)) hb); clear HO274; clear BK268; clear HB; have HO274 := n0_; have BK268 := n1_; have HB := n2_; clear n0_ n1_ n2_; (try clear hb); (try clear hb2); (try clear hk); (try clear hi)))
      go_meet
      case rel => exact ⟨_, (!t275), (by first | rfl | (simp; done) | (simp [*]; done)), H', ⟨by first | omega | exact Nat.le_refl _⟩, ⟨mK BK268.out⟩, ⟨by repeat (first | (with_reducible first | exact HB.out | apply below_alloc | apply pw_below_drewN | apply below_drew1 | refine below_set ?_ GE268.out) | exact HB.out)⟩⟩
     ·rw [if_neg c10] at H
      exact absurd H (by simp)
    ·rw [if_neg c9] at H
     exact absurd H (by simp)
  case rest =>
   clear HC5
   try clear c1
   try clear c2
   try clear p2
   try clear c3
   try clear c4
   try clear c4b0
   try clear c4b1
   try clear p6
   try clear c7
   try clear c7b0
   try clear c7b1
   try clear c9
   try clear c9b0
   try clear c9b1
   try clear c10
   try clear c10b0
   try clear c10b1
   obtain ⟨kq, x32_4, rfl, HA, HJ4, BK268, HB⟩ := hcut
   cases kq with
   | zero => exact absurd HA.out (by simp [columbariumref9_Decode.j0])
   | succ kj4 =>
    have H := HA.out
    clear HA
    simp only [columbariumref9_Decode.j0] at H
    by_cases c16 : x32_4 = true
    ·subst c16
     have H1 : (some (0, ([] : List Int), 0, 12)) = some (r1, r2, r3, r4) := by rw [if_pos rfl] at H; exact H
     clear H
     have H := H1
     clear H1
     simp only [Option.some.injEq, Prod.mk.injEq] at H
     obtain ⟨rfl, rfl, rfl, rfl⟩ := H
     obtain ⟨hcz17_0, hcz17_1, hfz17_0, hfz17_1⟩ := cells_2 BK268.out
     go_wp2
     refine bodyPost_ret (results_ctt rfl _ _ gb268 36 #[.int .i64 0, .slice none 0 0] (0, 0) _ rfl (by (with_reducible repeat (first | refine blk_drewN ?_ _ | refine blk_drew ?_ | refine blk_alloc ?_ _)); refine blk_put (cs := #[.int .i64 0, .slice none 0 0]) ?_ 1 _ rfl; (with_reducible repeat (first | refine blk_drewN ?_ _ | refine blk_drew ?_ | refine blk_alloc ?_ _)); refine blk_put (cs := #[.int .i64 0, .slice none 0 0]) ?_ 0 _ rfl; (with_reducible repeat (first | refine blk_drewN ?_ _ | refine blk_drew ?_ | refine blk_alloc ?_ _)); exact BK268.out) Try.underlying36 rfl (by kernel_rfl)) rfl ?_
     exact ⟨_, by first | rfl | (simp [errW_none, errW_some] <;> rfl) | (simp [*, errW_none, errW_some] <;> rfl), by first | exact Kd.R_nil _ _ _ _ _ | exact Kd.N_nil _ _ _ _ _ | exact Kd.V_nil _ _ _ _ _ | exact Kd.Q_nil _ _ _ _ _ | exact Kd.S_nil _ _ _ _ _, by repeat (first | (with_reducible first | exact HB.out | apply below_alloc | apply pw_below_drewN | apply below_drew1 | refine below_set ?_ GE268.out) | exact HB.out)⟩
    ·replace c16 := Bool.eq_false_iff.mpr c16
     subst c16
     have H1 : (if (wrap64 ((l0.length : Int) - t270)) < (wrap64 (Int.tdiv (wrap64 (t269)) 8)) then (some (0, ([] : List Int), 0, 10)) else ((some (([] : List Int) : List Int)).bind fun y276 => (if 0 ≤ t270 then (if t270 ≤ (wrap64 (t270 + (wrap64 (Int.tdiv (wrap64 (t269)) 8)))) then (if (wrap64 (t270 + (wrap64 (Int.tdiv (wrap64 (t269)) 8)))) ≤ (l0.length : Int) then (if y276.length + ((l0.take ((wrap64 (t270 + (wrap64 (Int.tdiv (wrap64 (t269)) 8)))) : Int).toNat).drop (t270 : Int).toNat).length < 140737488355328 then (some (wrap64 (t269), (y276 ++ ((l0.take ((wrap64 (t270 + (wrap64 (Int.tdiv (wrap64 (t269)) 8)))) : Int).toNat).drop (t270 : Int).toNat)), wrap64 (t270 + (wrap64 (Int.tdiv (wrap64 (t269)) 8))), 0)) else (none)) else (none)) else (none)) else (none)))) = some (r1, r2, r3, r4) := by rw [if_neg (show ¬ (false = true) by decide)] at H; exact H
     clear H
     have H := H1
     clear H1
     by_cases c18 : (wrap64 ((l0.length : Int) - t270)) < (wrap64 (Int.tdiv (wrap64 (t269)) 8))
     ·rw [if_pos c18] at H
      have c18b0 : decide ((wrap64 ((l0.length : Int) - t270)) < (wrap64 (Int.tdiv (wrap64 (t269)) 8))) = true := decide_eq_true c18
      clear c18
      simp only [Option.some.injEq, Prod.mk.injEq] at H
      obtain ⟨rfl, rfl, rfl, rfl⟩ := H
      obtain ⟨hcz19_0, hcz19_1, hfz19_0, hfz19_1⟩ := cells_2 BK268.out
      go_wp2
      refine bodyPost_ret (results_ctt rfl _ _ gb268 36 #[.int .i64 0, .slice none 0 0] (0, 0) _ rfl (by (with_reducible repeat (first | refine blk_drewN ?_ _ | refine blk_drew ?_ | refine blk_alloc ?_ _)); refine blk_put (cs := #[.int .i64 0, .slice none 0 0]) ?_ 1 _ rfl; (with_reducible repeat (first | refine blk_drewN ?_ _ | refine blk_drew ?_ | refine blk_alloc ?_ _)); refine blk_put (cs := #[.int .i64 0, .slice none 0 0]) ?_ 0 _ rfl; (with_reducible repeat (first | refine blk_drewN ?_ _ | refine blk_drew ?_ | refine blk_alloc ?_ _)); exact BK268.out) Try.underlying36 rfl (by kernel_rfl)) rfl ?_
      exact ⟨_, by first | rfl | (simp [errW_none, errW_some] <;> rfl) | (simp [*, errW_none, errW_some] <;> rfl), by first | exact Kd.R_nil _ _ _ _ _ | exact Kd.N_nil _ _ _ _ _ | exact Kd.V_nil _ _ _ _ _ | exact Kd.Q_nil _ _ _ _ _ | exact Kd.S_nil _ _ _ _ _, by repeat (first | (with_reducible first | exact HB.out | apply below_alloc | apply pw_below_drewN | apply below_drew1 | refine below_set ?_ GE268.out) | exact HB.out)⟩
     ·rw [if_neg c18] at H
      have c18b0 : decide ((wrap64 ((l0.length : Int) - t270)) < (wrap64 (Int.tdiv (wrap64 (t269)) 8))) = false := decide_eq_false c18
      clear c18
      obtain ⟨y276, hy276⟩ : ∃ y_ : List Int, y_ = (([] : List Int)) := ⟨_, rfl⟩
      replace H : (if 0 ≤ t270 then (if t270 ≤ (wrap64 (t270 + (wrap64 (Int.tdiv (wrap64 (t269)) 8)))) then (if (wrap64 (t270 + (wrap64 (Int.tdiv (wrap64 (t269)) 8)))) ≤ (l0.length : Int) then (if y276.length + ((l0.take ((wrap64 (t270 + (wrap64 (Int.tdiv (wrap64 (t269)) 8)))) : Int).toNat).drop (t270 : Int).toNat).length < 140737488355328 then (some (wrap64 (t269), (y276 ++ ((l0.take ((wrap64 (t270 + (wrap64 (Int.tdiv (wrap64 (t269)) 8)))) : Int).toNat).drop (t270 : Int).toNat)), wrap64 (t270 + (wrap64 (Int.tdiv (wrap64 (t269)) 8))), 0)) else (none)) else (none)) else (none)) else (none)) = some (r1, r2, r3, r4) := by first | (rw [hy276]; with_reducible exact H) | (have H2_ := (Option.bind_some _ _).symm.trans H; rw [hy276]; with_reducible exact H2_) | (have H2_ := (Option.bind_some _ _).symm.trans H; with_reducible exact H2_) | with_reducible exact H | (rw [hy276]; exact H) | exact H
      have Ny276 := Aside0.mk hy276
      clear hy276
      by_cases c20 : 0 ≤ t270
      ·rw [if_pos c20] at H
       have c20b0 := eq_true c20
       have c20b1 : decide (0 ≤ t270) = true := decide_eq_true c20
       clear c20
       by_cases c21 : t270 ≤ (wrap64 (t270 + (wrap64 (Int.tdiv (wrap64 (t269)) 8))))
       ·rw [if_pos c21] at H
        have c21b0 := eq_true c21
        have c21b1 : decide (t270 ≤ (wrap64 (t270 + (wrap64 (Int.tdiv (wrap64 (t269)) 8))))) = true := decide_eq_true c21
        by_cases c22 : (wrap64 (t270 + (wrap64 (Int.tdiv (wrap64 (t269)) 8)))) ≤ (l0.length : Int)
        ·rw [if_pos c22] at H
         have c22b0 := eq_true c22
         have c22b1 : decide ((wrap64 (t270 + (wrap64 (Int.tdiv (wrap64 (t269)) 8)))) ≤ (l0.length : Int)) = true := decide_eq_true c22
         by_cases c23 : y276.length + ((l0.take ((wrap64 (t270 + (wrap64 (Int.tdiv (wrap64 (t269)) 8)))) : Int).toNat).drop (t270 : Int).toNat).length < 140737488355328
         ·rw [if_pos c23] at H
          have LMc23 := Aside0.mk c23
          clear c23
          obtain ⟨y280, hy280⟩ : ∃ y_ : List Int, y_ = (y276 ++ ((l0.take ((wrap64 (t270 + (wrap64 (Int.tdiv (wrap64 (t269)) 8)))) : Int).toNat).drop (t270 : Int).toNat)) := ⟨_, rfl⟩
          replace H : (some (wrap64 (t269), y280, wrap64 (t270 + (wrap64 (Int.tdiv (wrap64 (t269)) 8))), 0)) = some (r1, r2, r3, r4) := by first | (rw [hy280]; with_reducible exact H) | (have H2_ := (Option.bind_some _ _).symm.trans H; rw [hy280]; with_reducible exact H2_) | (have H2_ := (Option.bind_some _ _).symm.trans H; with_reducible exact H2_) | with_reducible exact H | (rw [hy280]; exact H) | exact H
          have Ny280 := Aside0.mk hy280
          clear hy280
          simp only [Option.some.injEq, Prod.mk.injEq] at H
          obtain ⟨rfl, rfl, rfl, rfl⟩ := H
          go_wp2_with (first | ((with_reducible refine gate_dst (N := 45) rfl ?_); (try (refine gate_guard (by rfl) ?_; dsimp only)); refine Kd.R_lit (Kd.int .u8) _ 5 ?hg (N := 45) ?hd (xs := ([] : List Int)) (inner := []) (ok := fun _ => True) (okp := fun _ => True) ?hr ?hp (fun _ hk => hk) trivial (Below.refl _ _) (Nat.le_refl _) (by simp) ?_; (case hd => rfl); (case hg => rfl); (case hr => first | (go_simp; done) | (go_simp; rfl)); (case hp => exact (Reps.none _ _)); intro v277 w24 ho25 hb hg_ hnew_; clear hg_ hnew_; (first | rw [← Ny276.out] at ho25 | (simp only [Int.reduceToNat] at ho25; rw [← Ny276.out] at ho25)); have n0_ := Aside0.mk (Kd.R_lower ho25 (below_size (by repeat (first | (with_reducible first | exact HB.out | apply below_alloc | apply pw_below_drewN | apply below_drew1 | refine below_set ?_ GE268.out) | exact HB.out)))); have n1_ := Aside0.mk (blk_below (g := gb268) (o := .cells #[.int .i64 0, .slice none 0 0] 36 (0, 0)) (mK BK268.out) hb); have n2_ := Aside0.mk (below_step (by repeat (first | (with_reducible first | exact HB.out | apply below_alloc | apply pw_below_drewN | apply below_drew1 | refine below_set ?_ GE268.out) | exact HB.out)) hb); clear BK268; clear HB; have HO278 := n0_; have BK268 := n1_; have HB := n2_; clear n0_ n1_ n2_; clear hb ho25; obtain ⟨i026, hi026, _, hsz26, _⟩ := info_parts info5; obtain ⟨A26, hcut26, hA26, hC26⟩ := print_mid_of (P := Try.prog) (Value.int .u8) 0 24 5 .i64 .i64 Try.underlying24 hi026 hsz26 A0 c0 l0 t270 (wrap64 (t270 + (wrap64 (Int.tdiv (wrap64 (t269)) 8)))) (of_decide_eq_true (by first | (with_reducible assumption) | assumption)) (by first | omega | exact of_decide_eq_true (by first | (with_reducible assumption) | assumption)) (of_decide_eq_true (by first | (with_reducible assumption) | assumption)) HC0.out; have HR279 := Aside0.mk (Kd.C_of_reads (h1 := fun _ => rfl) (hA26 _ (Kd.reads_of_C HR0.out))); have HC279 := Aside0.mk hC26; clear hA26 hC26 hi026 hsz26) | ((with_reducible refine gate_builtin (b := .append) (xs := #[.tmp 45, .tmp 53]) rfl ?_); (try (refine gate_guard (by rfl) ?_; dsimp only)); at_builtin; refine Kd.R_append_rows (Kd.int .u8) (w0 := w) w.heap.size rfl (.tmp 45) (.tmp 53) 24 5 (.int .u8 0) 1 rfl Try.underlying24 info5 rfl (by decide) (by omega) v277 y276 ((l0.take ((wrap64 (t270 + (wrap64 (Int.tdiv (wrap64 (t269)) 8)))) : Int).toNat).drop (t270 : Int).toNat) _ _ _ (fun _ => True) (fun _ => False) rfl rfl ?aO ?aR (fun _ _ h => h) (fun _ h => h.elim) ?aF ?aB ?aS ?aL ?_; (case aR => first | (rw [← show ((l0.take ((wrap64 (t270 + (wrap64 (Int.tdiv (wrap64 (t269)) 8)))) : Int).toNat).drop (t270 : Int).toNat).length = ((wrap64 (t270 + (wrap64 (Int.tdiv (wrap64 (t269)) 8)))).toNat - t270.toNat) from (by rw [List.length_drop, List.length_take]; have h_ : ((wrap64 (t270 + (wrap64 (Int.tdiv (wrap64 (t269)) 8)))) : Int) ≤ (l0.length : Int) := of_decide_eq_true (by first | (with_reducible assumption) | assumption); omega)]; repeat (first | exact (Kd.C_below HR279.out HB.out) | (with_reducible refine Kd.C_alloc ?_ _) | (with_reducible refine Kd.C_drewN ?_ _) | (with_reducible refine Kd.C_drew ?_))) | (repeat (first | exact (Kd.C_below HR279.out HB.out) | (with_reducible refine Kd.C_alloc ?_ _) | (with_reducible refine Kd.C_drewN ?_ _) | (with_reducible refine Kd.C_drew ?_)))); (case aB => exact (by repeat (first | (with_reducible first | exact HB.out | apply below_alloc | apply pw_below_drewN | apply below_drew1 | refine below_set ?_ GE268.out) | exact HB.out))); (case aF => exact (fun _ _ => trivial)); (case aO => exact (mR HO278.out)); (case aS => exact (below_size (by repeat (first | (with_reducible first | exact HB.out | apply below_alloc | apply pw_below_drewN | apply below_drew1 | refine below_set ?_ GE268.out) | exact HB.out)))); (case aL => have := LMc23.out; have hlx_ := (show ((l0.take ((wrap64 (t270 + (wrap64 (Int.tdiv (wrap64 (t269)) 8)))) : Int).toNat).drop (t270 : Int).toNat).length = ((wrap64 (t270 + (wrap64 (Int.tdiv (wrap64 (t269)) 8)))).toNat - t270.toNat) from (by rw [List.length_drop, List.length_take]; have h_ : ((wrap64 (t270 + (wrap64 (Int.tdiv (wrap64 (t269)) 8)))) : Int) ≤ (l0.length : Int) := of_decide_eq_true (by first | (with_reducible assumption) | assumption); omega)); omega); intro v281 w27 ho hb hg hat; rw [← Ny280.out] at ho; have n0_ := Aside0.mk (blk_grown (g := gb268) (o := .cells #[.int .i64 0, .slice none 0 0] 36 (0, 0)) (mK BK268.out) hg (Kd.R_ne HO278.out BK268.out (by decide))); have n1_ := Aside0.mk (hb); have n2_ := Aside0.mk (ho); clear BK268; clear HB; clear HO278; have BK268 := n0_; have HB := n1_; have HO282 := n2_; clear n0_ n1_ n2_; clear ho hb hg hat; obtain ⟨Ao28, co28, eo28⟩ := Kd.R_slice HO282.out; subst eo28; obtain ⟨hcz29_0, hcz29_1, hfz29_0, hfz29_1⟩ := cells_2 BK268.out))
          refine bodyPost_ret (results_ctt rfl _ _ gb268 36 #[.int .i64 (wrap64 (t269)), .slice Ao28 y280.length co28] (0, 0) _ rfl (by (with_reducible repeat (first | refine blk_drewN ?_ _ | refine blk_drew ?_ | refine blk_alloc ?_ _)); refine blk_put (cs := #[.int .i64 (wrap64 (t269)), .slice none 0 0]) ?_ 1 _ rfl; (with_reducible repeat (first | refine blk_drewN ?_ _ | refine blk_drew ?_ | refine blk_alloc ?_ _)); refine blk_put (cs := #[.int .i64 0, .slice none 0 0]) ?_ 0 _ rfl; (with_reducible repeat (first | refine blk_drewN ?_ _ | refine blk_drew ?_ | refine blk_alloc ?_ _)); exact BK268.out) Try.underlying36 rfl (by kernel_rfl)) rfl ?_
          exact ⟨_, by first | rfl | (simp [errW_none, errW_some] <;> rfl) | (simp [*, errW_none, errW_some] <;> rfl), by (with_reducible repeat (first | apply Kd.R_alloc | apply Kd.R_drewN | apply Kd.R_drew)); exact Kd.R_mono (Kd.R_far (p := ⟨gb268, 1, none⟩) (Kd.R_far (p := ⟨gb268, 0, none⟩) (Kd.R_types HO282.out BK268.out (by decide)) (fun _ hk => hk.2) (.int .i64 (wrap64 (t269)))) (fun _ hk => hk.2) (.slice Ao28 y280.length co28)) (fun _ hk => trivial), by repeat (first | (with_reducible first | exact HB.out | apply below_alloc | apply pw_below_drewN | apply below_drew1 | refine below_set ?_ GE268.out) | exact HB.out)⟩
         ·rw [if_neg c23] at H
          exact absurd H (by simp)
        ·rw [if_neg c22] at H
         exact absurd H (by simp)
       ·rw [if_neg c21] at H
        exact absurd H (by simp)
      ·rw [if_neg c20] at H
       exact absurd H (by simp)
 ·rw [if_neg c4] at H
  have c4b0 : (t271 == 0) = false := beq_eq_false_iff_ne.mpr c4
  have c4b1 : (t271 != 0) = true := bne_iff_ne.mpr c4
  simp only [Option.some.injEq, Prod.mk.injEq] at H
  obtain ⟨rfl, rfl, rfl, rfl⟩ := H
  go_enter Try.func22, Try.ntmps22
  go_wp2_with (first | ((with_reducible refine gate_dst (N := 4) rfl ?_); (try (refine gate_guard (by rfl) ?_; dsimp only)); refine box_event ?hg (N := 4) ?hd (cs := #[.int .i64 0, .slice none 0 0]) (t := 36) ?hr ?_; (case hd => rfl); (case hg => rfl); (case hr => first | (go_simp; done) | (go_simp; rfl)); intro gb268 hg w30 hbox hb; have n0_ := Aside0.mk (below_step (mB HB.out) hb); have n1_ := Aside0.mk (hbox); have n2_ := Aside0.mk ((by rw [hg]; exact (below_size (mB HB.out)) : w.heap.size ≤ gb268)); have n3_ := n2_; clear HB; have HB := n0_; have BK268 := n1_; have GW268 := n2_; have GE268 := n3_; clear n0_ n1_ n2_ n3_; clear hb hbox hg) | ((with_reducible refine gate_callee (f := 36) rfl ?_); refine goesL_ (some 13) rfl rfl Try.func36 (by kernel_rfl) rfl #[.slice A0 l0.length c0, .int .i64 a1] rfl (by (try simp only [List.map_toArray, List.map_cons, List.map_nil]); first | done | rfl | (simp only [List.length_drop, List.length_take]; rfl)) ?_; (with_reducible refine (columbariumref1_Get.calls k _ _ l0 a1 t269 t270 t271 _ ?side1 ?side2 A3.out).mono ?_); (case side1 => repeat (first | exact (Kd.C_below HR0.out HB.out) | (with_reducible refine Kd.C_alloc ?_ _) | (with_reducible refine Kd.C_drewN ?_ _) | (with_reducible refine Kd.C_drew ?_))); (case side2 => exact HC0.out); rintro e w' ⟨rfl, ⟨nd, rfl⟩⟩; refine ⟨_, rfl, ?_⟩; (try (rw [drewN_self w30]; generalize hq_ : World.drewN w30 _ = w30; have n0_ : Aside0 (w30.heap[gb268]? = some (.cells #[.int .i64 0, .slice none 0 0] 36 (0, 0))) := ⟨by rw [← hq_]; exact (mK BK268.out)⟩; have n1_ : Aside0 (Below w.heap.size w w30) := ⟨by rw [← hq_]; exact (by repeat (first | (with_reducible first | exact HB.out | apply below_alloc | apply pw_below_drewN | apply below_drew1 | refine below_set ?_ GE268.out) | exact HB.out))⟩; clear BK268 HB hq_; have BK268 := n0_; have HB := n1_; clear n0_ n1_)); obtain ⟨hcz31_0, hcz31_1, hfz31_0, hfz31_1⟩ := cells_2 BK268.out))
  refine bodyPost_ret (results_ctt rfl _ _ gb268 36 #[.int .i64 0, .slice none 0 0] (0, 0) _ rfl (by (with_reducible repeat (first | refine blk_drewN ?_ _ | refine blk_drew ?_ | refine blk_alloc ?_ _)); refine blk_put (cs := #[.int .i64 0, .slice none 0 0]) ?_ 1 _ rfl; (with_reducible repeat (first | refine blk_drewN ?_ _ | refine blk_drew ?_ | refine blk_alloc ?_ _)); refine blk_put (cs := #[.int .i64 0, .slice none 0 0]) ?_ 0 _ rfl; (with_reducible repeat (first | refine blk_drewN ?_ _ | refine blk_drew ?_ | refine blk_alloc ?_ _)); exact BK268.out) Try.underlying36 rfl (by kernel_rfl)) rfl ?_
  exact ⟨_, by first | rfl | (simp [errW_none, errW_some] <;> rfl) | (simp [*, errW_none, errW_some] <;> rfl), by first | exact Kd.R_nil _ _ _ _ _ | exact Kd.N_nil _ _ _ _ _ | exact Kd.V_nil _ _ _ _ _ | exact Kd.Q_nil _ _ _ _ _ | exact Kd.S_nil _ _ _ _ _, by repeat (first | (with_reducible first | exact HB.out | apply below_alloc | apply pw_below_drewN | apply below_drew1 | refine below_set ?_ GE268.out) | exact HB.out)⟩

end Go.Proofs.Ytifcocmmapgebaa.QBloomNumbers
