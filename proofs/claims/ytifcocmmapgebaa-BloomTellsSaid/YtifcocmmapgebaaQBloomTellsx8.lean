-- Written by a program of this session (wip/myprint.py): the machine's side of a law
import Derived.Test.YtifcocmmapgebaaQBloomTellsx0
import Derived.Test.YtifcocmmapgebaaQBloomTellsx4
import Derived.Test.YtifcocmmapgebaaQBloomTellsx7
namespace Go.Proofs.Ytifcocmmapgebaa.QBloomTells
open Go.RowKit Go.Proofs.YtifcocmmapgebaaW.PrintWords Go.Proofs.YtifcocmmapgebaaW.PrintLast Go.Proofs.YtifcocmmapgebaaW.PrintMore
attribute [local go_sem] max2_int min2_int max_two min_two max_three min_three max_four min_four   -- for this text's walks alone
set_option linter.unusedVariables false
set_option linter.unusedSimpArgs false

/-! ### columbariumref9_Decode: function 22 -/
def columbariumref9_Decode.j0 : Nat → List Int → Int → Int → Bool → Option (Int × List Int × Int × Int)
 | 0, _, _, _, _ => none
 | k + 1, x0, x7, x8, x32 => if x32 = true then (some (0, ([] : List Int), 0, 12)) else (if (wrap64 ((x0.length : Int) - x8)) < (wrap64 (Int.tdiv (wrap64 (x7)) 8)) then (some (0, ([] : List Int), 0, 10)) else ((some (([] : List Int) : List Int)).bind fun y281 => (if 0 ≤ x8 then (if x8 ≤ (wrap64 (x8 + (wrap64 (Int.tdiv (wrap64 (x7)) 8)))) then (if (wrap64 (x8 + (wrap64 (Int.tdiv (wrap64 (x7)) 8)))) ≤ (x0.length : Int) then (if y281.length + ((x0.take ((wrap64 (x8 + (wrap64 (Int.tdiv (wrap64 (x7)) 8)))) : Int).toNat).drop (x8 : Int).toNat).length < 140737488355328 then (some (wrap64 (x7), (y281 ++ ((x0.take ((wrap64 (x8 + (wrap64 (Int.tdiv (wrap64 (x7)) 8)))) : Int).toNat).drop (x8 : Int).toNat)), wrap64 (x8 + (wrap64 (Int.tdiv (wrap64 (x7)) 8))), 0)) else (none)) else (none)) else (none)) else (none))))
def columbariumref9_Decode.f (k : Nat) (l0 : List Int) (a1 : Int) : Option (Int × List Int × Int × Int) := (columbariumref1_Get.f k l0 a1).bind fun bt274 => (if bt274.2.2 = 0 then (if bt274.1 > 65536 then (columbariumref9_Decode.j0 k l0 bt274.1 bt274.2.1 true) else (if 0 ≤ (IntKind.u64.wrap (Int.tdiv bt274.1 8)) then (if (IntKind.u64.wrap (Int.tdiv bt274.1 8) : Int).toNat ≤ 281474976710656 then ((columbariumref9_Right.f k (wrap64 (bt274.1)) (List.replicate (IntKind.u64.wrap (Int.tdiv bt274.1 8) : Int).toNat 0)).bind fun t280 => (columbariumref9_Decode.j0 k l0 bt274.1 bt274.2.1 (!t280))) else (none)) else (none))) else (some (0, ([] : List Int), 0, bt274.2.2)))
theorem columbariumref9_Decode.mono_l : ∀ k, (∀ y0 y1 y2 y3, LeO (columbariumref9_Decode.j0 k y0 y1 y2 y3) (columbariumref9_Decode.j0 (k + 1) y0 y1 y2 y3))
 | 0 => fun _ _ _ _ r h => by simp [columbariumref9_Decode.j0] at h
 | k + 1 => by
  have ih0 := columbariumref9_Decode.mono_l k
  ·intro y0 y1 y2 y3
   unfold columbariumref9_Decode.j0
   repeat' first
   | (with_reducible exact ih0 _ _ _ _)
   | (with_reducible exact columbariumref1_Get.mono _ _ _)
   | (with_reducible exact columbariumref9_Right.mono _ _ _)
   | (with_reducible exact LeO.refl _)
   | (with_reducible exact LeO.none _)
   | (with_reducible refine LeO.ite ?_ ?_)
   | (with_reducible refine LeO.bind ?_ (fun _ => ?_))
   | exact ih0 _ _ _ _
   | exact columbariumref1_Get.mono _ _ _
   | exact columbariumref9_Right.mono _ _ _
   | exact LeO.none _
   | refine LeO.ite ?_ ?_
   | refine LeO.bind ?_ (fun _ => ?_)
theorem columbariumref9_Decode.mono : ∀ a0 a1 k, LeO (columbariumref9_Decode.f k a0 a1) (columbariumref9_Decode.f (k + 1) a0 a1) := by
 intro a0 a1 k
 have ih0 := columbariumref9_Decode.mono_l k
 unfold columbariumref9_Decode.f
 repeat' first
   | (with_reducible exact ih0 _ _ _ _)
   | (with_reducible exact columbariumref1_Get.mono _ _ _)
   | (with_reducible exact columbariumref9_Right.mono _ _ _)
   | (with_reducible exact LeO.refl _)
   | (with_reducible exact LeO.none _)
   | (with_reducible refine LeO.ite ?_ ?_)
   | (with_reducible refine LeO.bind ?_ (fun _ => ?_))
   | exact ih0 _ _ _ _
   | exact columbariumref1_Get.mono _ _ _
   | exact columbariumref9_Right.mono _ _ _
   | exact LeO.none _
   | refine LeO.ite ?_ ?_
   | refine LeO.bind ?_ (fun _ => ?_)
set_option maxHeartbeats 8000000 in
set_option maxRecDepth 100000 in
theorem columbariumref9_Decode.calls (k : Nat) (A0 : Option Addr) (c0 : Nat) (l0 : List Int) (a1 : Int) (r1 : Int) (r2 : List Int) (r3 : Int) (r4 : Int) (w : World) (hr0 : Kd.C (Kd.int .u8) w A0 l0.length l0) (hc0 : l0.length ≤ c0) (h : columbariumref9_Decode.f k l0 a1 = some (r1, r2, r3, r4)) :
  Calls Try.prog 22 #[.slice A0 l0.length c0, .int .i64 a1] w fun e w' => ∃ v1_ : Value, e = .returned (.tuple #[.agg #[.int .i64 r1, v1_], .int .i64 r3, .int .i64 r4]) ∧ Kd.R (Kd.int .u8) 5 w' w.heap.size (fun _ => True) v1_ r2 ∧ Below w.heap.size w w' := by
 have hu36 := Try.underlying36
 have HR0 := Aside0.mk hr0
 have HC0 := Aside0.mk hc0
 clear hr0 hc0
 have HB := Aside0.mk (Below.refl w.heap.size w)
 have H : ((columbariumref1_Get.f k l0 a1).bind fun bt274 => (if bt274.2.2 = 0 then (if bt274.1 > 65536 then (columbariumref9_Decode.j0 k l0 bt274.1 bt274.2.1 true) else (if 0 ≤ (IntKind.u64.wrap (Int.tdiv bt274.1 8)) then (if (IntKind.u64.wrap (Int.tdiv bt274.1 8) : Int).toNat ≤ 281474976710656 then ((columbariumref9_Right.f k (wrap64 (bt274.1)) (List.replicate (IntKind.u64.wrap (Int.tdiv bt274.1 8) : Int).toNat 0)).bind fun t280 => (columbariumref9_Decode.j0 k l0 bt274.1 bt274.2.1 (!t280))) else (none)) else (none))) else (some (0, ([] : List Int), 0, bt274.2.2)))) = some (r1, r2, r3, r4) := h
 clear h
 replace H := Option.bind_eq_some_iff.mp H
 obtain ⟨⟨t274, t275, t276⟩, A30, H⟩ := H
 replace H : (if t276 = 0 then (if t274 > 65536 then (columbariumref9_Decode.j0 k l0 t274 t275 true) else (if 0 ≤ (IntKind.u64.wrap (Int.tdiv t274 8)) then (if (IntKind.u64.wrap (Int.tdiv t274 8) : Int).toNat ≤ 281474976710656 then ((columbariumref9_Right.f k (wrap64 (t274)) (List.replicate (IntKind.u64.wrap (Int.tdiv t274 8) : Int).toNat 0)).bind fun t280 => (columbariumref9_Decode.j0 k l0 t274 t275 (!t280))) else (none)) else (none))) else (some (0, ([] : List Int), 0, t276))) = some (r1, r2, r3, r4) := H
 have A3 := Aside0.mk A30
 clear A30
 by_cases c4 : t276 = 0
 ·rw [if_pos c4] at H
  have c4b0 : (t276 == 0) = true := beq_iff_eq.mpr c4
  have c4b1 : (t276 != 0) = false := bne_eq_false_iff_eq.mpr c4
  clear c4
  have HC5 := Aside0.mk H
  clear H
  go_enter Try.func22, Try.ntmps22
  go_upto_region 4 with (first | ((with_reducible refine gate_dst (N := 4) rfl ?_); (try (refine gate_guard (by rfl) ?_; dsimp only)); refine box_event ?hg (N := 4) ?hd (cs := #[.int .i64 0, .slice none 0 0]) (t := 36) ?hr ?_; (case hd => rfl); (case hg => rfl); (case hr => first | (go_simp; done) | (go_simp; rfl)); intro gb273 hg w6 hbox hb; have n0_ := Aside0.mk (below_step (mB HB.out) hb); have n1_ := Aside0.mk (hbox); have n2_ := Aside0.mk ((by rw [hg]; exact (below_size (mB HB.out)) : w.heap.size ≤ gb273)); have n3_ := n2_; clear HB; have HB := n0_; have BK273 := n1_; have GW273 := n2_; have GE273 := n3_; clear n0_ n1_ n2_ n3_; clear hb hbox hg) | ((with_reducible refine gate_callee (f := 36) rfl ?_); refine goesL_ (some 13) rfl rfl Try.func36 (by kernel_rfl) rfl #[.slice A0 l0.length c0, .int .i64 a1] rfl (by (try simp only [List.map_toArray, List.map_cons, List.map_nil]); first | done | rfl | (simp only [List.length_drop, List.length_take]; rfl)) ?_; (with_reducible refine (columbariumref1_Get.calls k _ _ l0 a1 t274 t275 t276 _ ?side1 ?side2 A3.out).mono ?_); (case side1 => repeat (first | exact (Kd.C_below HR0.out HB.out) | (with_reducible refine Kd.C_alloc ?_ _) | (with_reducible refine Kd.C_drewN ?_ _) | (with_reducible refine Kd.C_drew ?_))); (case side2 => first | exact HC0.out | exact Kd.V_mono HC0.out (fun k_ hk_ => by grind)); rintro e w' ⟨rfl, ⟨nd, rfl⟩⟩; refine ⟨_, rfl, ?_⟩))
  (try simp only [Act.put, List.setIfInBounds_toArray, List.set_cons_zero, List.set_cons_succ])
  go_cut [32] (fun v32 wc => ∃ (kq : Nat) (x32_4 : Bool), v32 = .bool x32_4 ∧ Aside0 (columbariumref9_Decode.j0 kq l0 t274 t275 x32_4 = some (r1, r2, r3, r4)) ∧ Aside0 (kq ≤ k) ∧ Aside0 (wc.heap[gb273]? = some (.cells #[.int .i64 0, (.slice none 0 0)] 36 (0, 0))) ∧ Aside0 (Below w.heap.size w wc))
  case first =>
   have H := HC5.out
   clear HC5
   by_cases c7 : t274 > 65536
   ·rw [if_pos c7] at H
    have c7b0 : decide (65536 < t274) = true := decide_eq_true c7
    clear c7
    (first | rw [c7b0] | rw [c7b1] | (simp only [i64_w, i32_w]; rw [c7b0]) | skip)
    have H' := Aside0.mk H
    clear H
    go_wp2
    go_meet
    case rel => exact ⟨_, (true), (by first | rfl | (simp; done) | (simp [*]; done)), H', ⟨by first | omega | exact Nat.le_refl _⟩, ⟨mK BK273.out⟩, ⟨mZ⟩⟩
   ·rw [if_neg c7] at H
    have c7b0 : decide (65536 < t274) = false := decide_eq_false c7
    clear c7
    (first | rw [c7b0] | rw [c7b1] | (simp only [i64_w, i32_w]; rw [c7b0]) | skip)
    obtain ⟨ji8, hji8⟩ : ∃ j_ : Int, (IntKind.u64.wrap (Int.tdiv t274 8)) = j_ := ⟨_, rfl⟩
    replace H : (if 0 ≤ (ji8) then (if (ji8 : Int).toNat ≤ 281474976710656 then ((columbariumref9_Right.f k (wrap64 (t274)) (List.replicate (ji8 : Int).toNat 0)).bind fun t280 => (columbariumref9_Decode.j0 k l0 t274 t275 (!t280))) else (none)) else (none)) = some (r1, r2, r3, r4) := by first | (rw [hji8] at H; exact H) | (simp only [hji8] at H ⊢; exact H)
    by_cases c9 : 0 ≤ (ji8)
    ·rw [if_pos c9] at H
     have c9b0 := eq_true c9
     have c9b1 : decide (0 ≤ (ji8)) = true := decide_eq_true c9
     clear c9
     by_cases c10 : (ji8 : Int).toNat ≤ 281474976710656
     ·rw [if_pos c10] at H
      have c10b0 := eq_true c10
      have c10b1 : decide ((ji8 : Int).toNat ≤ 281474976710656) = true := decide_eq_true c10
      clear c10
      obtain ⟨y277, hy277⟩ : ∃ y_ : List Int, y_ = (List.replicate (ji8 : Int).toNat 0) := ⟨_, rfl⟩
      replace H : ((columbariumref9_Right.f k (wrap64 (t274)) y277).bind fun t280 => (columbariumref9_Decode.j0 k l0 t274 t275 (!t280))) = some (r1, r2, r3, r4) := by first | (rw [hy277]; with_reducible exact H) | (have H2_ := (Option.bind_some _ _).symm.trans H; rw [hy277]; with_reducible exact H2_) | (have H2_ := (Option.bind_some _ _).symm.trans H; with_reducible exact H2_) | with_reducible exact H | (rw [hy277]; exact H) | exact H
      have Ny277 := Aside0.mk hy277
      clear hy277
      replace H := Option.bind_eq_some_iff.mp H
      obtain ⟨t280, A110, H⟩ := H
      replace H : (columbariumref9_Decode.j0 k l0 t274 t275 (!t280)) = some (r1, r2, r3, r4) := H
      have A11 := Aside0.mk A110
      clear A110
      have H' := Aside0.mk H
      clear H
      go_wp2_with (first | ((with_reducible refine gate_dst (N := 28) rfl ?_); (try (refine gate_guard (by rfl) ?_; dsimp only)); refine R_make_u64 (Kd.int .u8) _ 5 rfl (N := 28) rfl 24 _ _ rfl ji8 rfl rfl Try.underlying24 (.int .u8 0) 1 info5 rfl (by decide) (by omega) 0 (ok := fun _ => True) (okp := fun _ => True) rfl (fun _ hk => hk) trivial (of_decide_eq_true (by first | (with_reducible assumption) | assumption)) (Nat.le_trans (Nat.mul_le_mul_right _ (of_decide_eq_true (by first | (with_reducible assumption) | assumption) : ji8.toNat ≤ 281474976710656)) (by omega)) (Below.refl _ _) (Nat.le_refl _) ?_; intro v278 w12 ho13 hb hg_ hnew_; clear hg_ hnew_; (first | rw [← Ny277.out] at ho13 | (simp only [Int.reduceToNat] at ho13; rw [← Ny277.out] at ho13)); have n0_ := Aside0.mk (Kd.R_lower ho13 (below_size mZ)); have n1_ := Aside0.mk (blk_below (mK BK273.out) hb); have n2_ := Aside0.mk (below_step mZ hb); clear BK273; clear HB; have HO279 := n0_; have BK273 := n1_; have HB := n2_; clear n0_ n1_ n2_; clear hb ho13; obtain ⟨Ao14, co14, eo14⟩ := Kd.R_slice HO279.out; subst eo14) | (go_at_call 19; (with_reducible refine (columbariumref9_Right.calls k (wrap64 (t274)) _ _ y277 t280 _ ?side1 ?side2 A11.out).mono ?_); (case side1 => repeat (first | exact (Kd.R_reads' HO279.out).2.2 | (with_reducible refine Kd.C_alloc ?_ _) | (with_reducible refine Kd.C_drewN ?_ _) | (with_reducible refine Kd.C_drew ?_))); (case side2 => exact (Kd.R_reads' HO279.out).2.1); rintro e w15 ⟨rfl, hb⟩; have n0_ := Aside0.mk (Kd.R_below (mR HO279.out) hb); have n1_ := Aside0.mk (blk_below (mK BK273.out) hb); have n2_ := Aside0.mk (below_step mZ hb); clear HO279; clear BK273; clear HB; have HO279 := n0_; have BK273 := n1_; have HB := n2_; clear n0_ n1_ n2_; (try clear hb); (try clear hb2); (try clear hk); (try clear hi)))
      go_meet
      case rel => exact ⟨_, (!t280), (by first | rfl | (simp; done) | (simp [*]; done)), H', ⟨by first | omega | exact Nat.le_refl _⟩, ⟨mK BK273.out⟩, ⟨mZ⟩⟩
     ·rw [if_neg c10] at H
      exact absurd H (by simp)
    ·rw [if_neg c9] at H
     exact absurd H (by simp)
  case rest =>
   clear HC5
   try clear c4
   try clear c4b0
   try clear c4b1
   try clear c7
   try clear c7b0
   try clear c7b1
   try clear c9
   try clear c9b0
   try clear c9b1
   try clear c10
   try clear c10b0
   try clear c10b1
   obtain ⟨kq, x32_4, rfl, HA, HJ4, BK273, HB⟩ := hcut
   cases kq with
   | zero => exact absurd HA.out (by simp [columbariumref9_Decode.j0])
   | succ kj4 =>
    have H := HA.out
    clear HA
    simp only [columbariumref9_Decode.j0] at H
    by_cases c16 : x32_4 = true
    ·subst c16
     have H1 : (some (0, ([] : List Int), 0, 12)) = some (r1, r2, r3, r4) := by rw [if_pos rfl] at H; exact H
     clear H
     have H := H1
     clear H1
     simp only [Option.some.injEq, Prod.mk.injEq] at H
     obtain ⟨rfl, rfl, rfl, rfl⟩ := H
     obtain ⟨hcz17_0, hcz17_1, hfz17_0, hfz17_1⟩ := cells_2 BK273.out
     go_wp2
     refine bodyPost_ret (results_ctt rfl _ _ gb273 36 #[.int .i64 0, .slice none 0 0] (0, 0) _ rfl (by (with_reducible repeat (first | refine blk_drewN ?_ _ | refine blk_drew ?_ | refine blk_alloc ?_ _)); apply puts_2; (with_reducible repeat (first | refine blk_drewN ?_ _ | refine blk_drew ?_ | refine blk_alloc ?_ _)); exact BK273.out) Try.underlying36 rfl (by kernel_rfl)) rfl ?_
     exact ⟨_, by first | rfl | (simp [errW_none, errW_some] <;> rfl) | (simp [*, errW_none, errW_some] <;> rfl), by first | exact Kd.R_nil _ _ _ _ _ | exact Kd.N_nil _ _ _ _ _ | exact Kd.V_nil _ _ _ _ _ | exact Kd.Q_nil _ _ _ _ _ | exact Kd.S_nil _ _ _ _ _, mZ⟩
    ·replace c16 := Bool.eq_false_iff.mpr c16
     subst c16
     have H1 : (if (wrap64 ((l0.length : Int) - t275)) < (wrap64 (Int.tdiv (wrap64 (t274)) 8)) then (some (0, ([] : List Int), 0, 10)) else ((some (([] : List Int) : List Int)).bind fun y281 => (if 0 ≤ t275 then (if t275 ≤ (wrap64 (t275 + (wrap64 (Int.tdiv (wrap64 (t274)) 8)))) then (if (wrap64 (t275 + (wrap64 (Int.tdiv (wrap64 (t274)) 8)))) ≤ (l0.length : Int) then (if y281.length + ((l0.take ((wrap64 (t275 + (wrap64 (Int.tdiv (wrap64 (t274)) 8)))) : Int).toNat).drop (t275 : Int).toNat).length < 140737488355328 then (some (wrap64 (t274), (y281 ++ ((l0.take ((wrap64 (t275 + (wrap64 (Int.tdiv (wrap64 (t274)) 8)))) : Int).toNat).drop (t275 : Int).toNat)), wrap64 (t275 + (wrap64 (Int.tdiv (wrap64 (t274)) 8))), 0)) else (none)) else (none)) else (none)) else (none)))) = some (r1, r2, r3, r4) := by rw [if_neg (show ¬ (false = true) by decide)] at H; exact H
     clear H
     have H := H1
     clear H1
     by_cases c18 : (wrap64 ((l0.length : Int) - t275)) < (wrap64 (Int.tdiv (wrap64 (t274)) 8))
     ·rw [if_pos c18] at H
      have c18b0 : decide ((wrap64 ((l0.length : Int) - t275)) < (wrap64 (Int.tdiv (wrap64 (t274)) 8))) = true := decide_eq_true c18
      clear c18
      simp only [Option.some.injEq, Prod.mk.injEq] at H
      obtain ⟨rfl, rfl, rfl, rfl⟩ := H
      obtain ⟨hcz19_0, hcz19_1, hfz19_0, hfz19_1⟩ := cells_2 BK273.out
      go_wp2
      refine bodyPost_ret (results_ctt rfl _ _ gb273 36 #[.int .i64 0, .slice none 0 0] (0, 0) _ rfl (by (with_reducible repeat (first | refine blk_drewN ?_ _ | refine blk_drew ?_ | refine blk_alloc ?_ _)); apply puts_2; (with_reducible repeat (first | refine blk_drewN ?_ _ | refine blk_drew ?_ | refine blk_alloc ?_ _)); exact BK273.out) Try.underlying36 rfl (by kernel_rfl)) rfl ?_
      exact ⟨_, by first | rfl | (simp [errW_none, errW_some] <;> rfl) | (simp [*, errW_none, errW_some] <;> rfl), by first | exact Kd.R_nil _ _ _ _ _ | exact Kd.N_nil _ _ _ _ _ | exact Kd.V_nil _ _ _ _ _ | exact Kd.Q_nil _ _ _ _ _ | exact Kd.S_nil _ _ _ _ _, mZ⟩
     ·rw [if_neg c18] at H
      have c18b0 : decide ((wrap64 ((l0.length : Int) - t275)) < (wrap64 (Int.tdiv (wrap64 (t274)) 8))) = false := decide_eq_false c18
      clear c18
      obtain ⟨y281, hy281⟩ : ∃ y_ : List Int, y_ = (([] : List Int)) := ⟨_, rfl⟩
      replace H : (if 0 ≤ t275 then (if t275 ≤ (wrap64 (t275 + (wrap64 (Int.tdiv (wrap64 (t274)) 8)))) then (if (wrap64 (t275 + (wrap64 (Int.tdiv (wrap64 (t274)) 8)))) ≤ (l0.length : Int) then (if y281.length + ((l0.take ((wrap64 (t275 + (wrap64 (Int.tdiv (wrap64 (t274)) 8)))) : Int).toNat).drop (t275 : Int).toNat).length < 140737488355328 then (some (wrap64 (t274), (y281 ++ ((l0.take ((wrap64 (t275 + (wrap64 (Int.tdiv (wrap64 (t274)) 8)))) : Int).toNat).drop (t275 : Int).toNat)), wrap64 (t275 + (wrap64 (Int.tdiv (wrap64 (t274)) 8))), 0)) else (none)) else (none)) else (none)) else (none)) = some (r1, r2, r3, r4) := by first | (rw [hy281]; with_reducible exact H) | (have H2_ := (Option.bind_some _ _).symm.trans H; rw [hy281]; with_reducible exact H2_) | (have H2_ := (Option.bind_some _ _).symm.trans H; with_reducible exact H2_) | with_reducible exact H | (rw [hy281]; exact H) | exact H
      have Ny281 := Aside0.mk hy281
      clear hy281
      by_cases c20 : 0 ≤ t275
      ·rw [if_pos c20] at H
       have c20b0 := eq_true c20
       have c20b1 : decide (0 ≤ t275) = true := decide_eq_true c20
       clear c20
       by_cases c21 : t275 ≤ (wrap64 (t275 + (wrap64 (Int.tdiv (wrap64 (t274)) 8))))
       ·rw [if_pos c21] at H
        have c21b0 := eq_true c21
        have c21b1 : decide (t275 ≤ (wrap64 (t275 + (wrap64 (Int.tdiv (wrap64 (t274)) 8))))) = true := decide_eq_true c21
        by_cases c22 : (wrap64 (t275 + (wrap64 (Int.tdiv (wrap64 (t274)) 8)))) ≤ (l0.length : Int)
        ·rw [if_pos c22] at H
         have c22b0 := eq_true c22
         have c22b1 : decide ((wrap64 (t275 + (wrap64 (Int.tdiv (wrap64 (t274)) 8)))) ≤ (l0.length : Int)) = true := decide_eq_true c22
         by_cases c23 : y281.length + ((l0.take ((wrap64 (t275 + (wrap64 (Int.tdiv (wrap64 (t274)) 8)))) : Int).toNat).drop (t275 : Int).toNat).length < 140737488355328
         ·rw [if_pos c23] at H
          have LMc23 := Aside0.mk c23
          clear c23
          obtain ⟨y285, hy285⟩ : ∃ y_ : List Int, y_ = (y281 ++ ((l0.take ((wrap64 (t275 + (wrap64 (Int.tdiv (wrap64 (t274)) 8)))) : Int).toNat).drop (t275 : Int).toNat)) := ⟨_, rfl⟩
          replace H : (some (wrap64 (t274), y285, wrap64 (t275 + (wrap64 (Int.tdiv (wrap64 (t274)) 8))), 0)) = some (r1, r2, r3, r4) := by first | (rw [hy285]; with_reducible exact H) | (have H2_ := (Option.bind_some _ _).symm.trans H; rw [hy285]; with_reducible exact H2_) | (have H2_ := (Option.bind_some _ _).symm.trans H; with_reducible exact H2_) | with_reducible exact H | (rw [hy285]; exact H) | exact H
          have Ny285 := Aside0.mk hy285
          clear hy285
          simp only [Option.some.injEq, Prod.mk.injEq] at H
          obtain ⟨rfl, rfl, rfl, rfl⟩ := H
          go_wp2_with (first | ((with_reducible refine gate_dst (N := 45) rfl ?_); (try (refine gate_guard (by rfl) ?_; dsimp only)); refine Kd.R_lit (Kd.int .u8) _ 5 ?hg (N := 45) ?hd (xs := ([] : List Int)) (inner := []) (ok := fun _ => True) (okp := fun _ => True) ?hr ?hp (fun _ hk => hk) trivial (Below.refl _ _) (Nat.le_refl _) (by simp) ?_; (case hd => rfl); (case hg => rfl); (case hr => first | (go_simp; done) | (go_simp; rfl)); (case hp => exact (Reps.none _ _)); intro v282 w24 ho25 hb hg_ hnew_; clear hg_ hnew_; (first | rw [← Ny281.out] at ho25 | (simp only [Int.reduceToNat] at ho25; rw [← Ny281.out] at ho25)); have n0_ := Aside0.mk (Kd.R_lower ho25 (below_size mZ)); have n1_ := Aside0.mk (blk_below (mK BK273.out) hb); have n2_ := Aside0.mk (below_step mZ hb); clear BK273; clear HB; have HO283 := n0_; have BK273 := n1_; have HB := n2_; clear n0_ n1_ n2_; clear hb ho25; obtain ⟨i026, hi026, _, hsz26, _⟩ := info_parts info5; obtain ⟨A26, hcut26, hA26, hC26⟩ := print_mid_of (P := Try.prog) (Value.int .u8) 0 24 5 .i64 .i64 Try.underlying24 hi026 hsz26 A0 c0 l0 t275 (wrap64 (t275 + (wrap64 (Int.tdiv (wrap64 (t274)) 8)))) (of_decide_eq_true (by first | (with_reducible assumption) | assumption)) (by first | omega | exact of_decide_eq_true (by first | (with_reducible assumption) | assumption)) (of_decide_eq_true (by first | (with_reducible assumption) | assumption)) HC0.out; have HR284 := Aside0.mk (Kd.C_of_reads (h1 := fun _ => rfl) (hA26 _ (Kd.reads_of_C HR0.out))); have HC284 := Aside0.mk hC26; clear hA26 hC26 hi026 hsz26) | ((with_reducible refine gate_builtin (b := .append) (xs := #[.tmp 45, .tmp 53]) rfl ?_); (try (refine gate_guard (by rfl) ?_; dsimp only)); at_builtin; refine Kd.R_append_rows (Kd.int .u8) (w0 := w) w.heap.size rfl (.tmp 45) (.tmp 53) 24 5 (.int .u8 0) 1 rfl Try.underlying24 info5 rfl (by decide) (by omega) v282 y281 ((l0.take ((wrap64 (t275 + (wrap64 (Int.tdiv (wrap64 (t274)) 8)))) : Int).toNat).drop (t275 : Int).toNat) _ _ _ (fun _ => True) (fun _ => False) rfl rfl ?aO ?aR (fun _ _ h => h) (fun _ h => h.elim) ?aF ?aB ?aS ?aL ?_; (case aR => first | (rw [← show ((l0.take ((wrap64 (t275 + (wrap64 (Int.tdiv (wrap64 (t274)) 8)))) : Int).toNat).drop (t275 : Int).toNat).length = ((wrap64 (t275 + (wrap64 (Int.tdiv (wrap64 (t274)) 8)))).toNat - t275.toNat) from (by rw [List.length_drop, List.length_take]; have h_ : ((wrap64 (t275 + (wrap64 (Int.tdiv (wrap64 (t274)) 8)))) : Int) ≤ (l0.length : Int) := of_decide_eq_true (by first | (with_reducible assumption) | assumption); omega)]; repeat (first | exact (Kd.C_below HR284.out HB.out) | (with_reducible refine Kd.C_alloc ?_ _) | (with_reducible refine Kd.C_drewN ?_ _) | (with_reducible refine Kd.C_drew ?_))) | (repeat (first | exact (Kd.C_below HR284.out HB.out) | (with_reducible refine Kd.C_alloc ?_ _) | (with_reducible refine Kd.C_drewN ?_ _) | (with_reducible refine Kd.C_drew ?_)))); (case aB => exact mZ); (case aF => exact (fun _ _ => trivial)); (case aO => exact (mR HO283.out)); (case aS => exact (below_size mZ)); (case aL => have := LMc23.out; have hlx_ := (show ((l0.take ((wrap64 (t275 + (wrap64 (Int.tdiv (wrap64 (t274)) 8)))) : Int).toNat).drop (t275 : Int).toNat).length = ((wrap64 (t275 + (wrap64 (Int.tdiv (wrap64 (t274)) 8)))).toNat - t275.toNat) from (by rw [List.length_drop, List.length_take]; have h_ : ((wrap64 (t275 + (wrap64 (Int.tdiv (wrap64 (t274)) 8)))) : Int) ≤ (l0.length : Int) := of_decide_eq_true (by first | (with_reducible assumption) | assumption); omega)); omega); intro v286 w27 ho hb hg hat; rw [← Ny285.out] at ho; have n0_ := Aside0.mk (blk_grown (mK BK273.out) hg (Kd.R_ne HO283.out BK273.out (by decide))); have n1_ := Aside0.mk (hb); have n2_ := Aside0.mk (ho); clear BK273; clear HB; clear HO283; have BK273 := n0_; have HB := n1_; have HO287 := n2_; clear n0_ n1_ n2_; clear ho hb hg hat; obtain ⟨Ao28, co28, eo28⟩ := Kd.R_slice HO287.out; subst eo28; obtain ⟨hcz29_0, hcz29_1, hfz29_0, hfz29_1⟩ := cells_2 BK273.out))
          refine bodyPost_ret (results_ctt rfl _ _ gb273 36 #[.int .i64 (wrap64 (t274)), .slice Ao28 y285.length co28] (0, 0) _ rfl (by (with_reducible repeat (first | refine blk_drewN ?_ _ | refine blk_drew ?_ | refine blk_alloc ?_ _)); apply puts_2; (with_reducible repeat (first | refine blk_drewN ?_ _ | refine blk_drew ?_ | refine blk_alloc ?_ _)); exact BK273.out) Try.underlying36 rfl (by kernel_rfl)) rfl ?_
          exact ⟨_, by first | rfl | (simp [errW_none, errW_some] <;> rfl) | (simp [*, errW_none, errW_some] <;> rfl), by (with_reducible repeat (first | apply Kd.R_alloc | apply Kd.R_drewN | apply Kd.R_drew)); exact Kd.R_mono (Kd.R_far (p := ⟨gb273, 1, none⟩) (Kd.R_far (p := ⟨gb273, 0, none⟩) (Kd.R_types HO287.out BK273.out (by decide)) (fun _ hk => hk.2) (.int .i64 (wrap64 (t274)))) (fun _ hk => hk.2) (.slice Ao28 y285.length co28)) (fun _ hk => trivial), mZ⟩
         ·rw [if_neg c23] at H
          exact absurd H (by simp)
        ·rw [if_neg c22] at H
         exact absurd H (by simp)
       ·rw [if_neg c21] at H
        exact absurd H (by simp)
      ·rw [if_neg c20] at H
       exact absurd H (by simp)
 ·rw [if_neg c4] at H
  have c4b0 : (t276 == 0) = false := beq_eq_false_iff_ne.mpr c4
  have c4b1 : (t276 != 0) = true := bne_iff_ne.mpr c4
  simp only [Option.some.injEq, Prod.mk.injEq] at H
  obtain ⟨rfl, rfl, rfl, rfl⟩ := H
  go_enter Try.func22, Try.ntmps22
  go_wp2_with (first | ((with_reducible refine gate_dst (N := 4) rfl ?_); (try (refine gate_guard (by rfl) ?_; dsimp only)); refine box_event ?hg (N := 4) ?hd (cs := #[.int .i64 0, .slice none 0 0]) (t := 36) ?hr ?_; (case hd => rfl); (case hg => rfl); (case hr => first | (go_simp; done) | (go_simp; rfl)); intro gb273 hg w30 hbox hb; have n0_ := Aside0.mk (below_step (mB HB.out) hb); have n1_ := Aside0.mk (hbox); have n2_ := Aside0.mk ((by rw [hg]; exact (below_size (mB HB.out)) : w.heap.size ≤ gb273)); have n3_ := n2_; clear HB; have HB := n0_; have BK273 := n1_; have GW273 := n2_; have GE273 := n3_; clear n0_ n1_ n2_ n3_; clear hb hbox hg) | ((with_reducible refine gate_callee (f := 36) rfl ?_); refine goesL_ (some 13) rfl rfl Try.func36 (by kernel_rfl) rfl #[.slice A0 l0.length c0, .int .i64 a1] rfl (by (try simp only [List.map_toArray, List.map_cons, List.map_nil]); first | done | rfl | (simp only [List.length_drop, List.length_take]; rfl)) ?_; (with_reducible refine (columbariumref1_Get.calls k _ _ l0 a1 t274 t275 t276 _ ?side1 ?side2 A3.out).mono ?_); (case side1 => repeat (first | exact (Kd.C_below HR0.out HB.out) | (with_reducible refine Kd.C_alloc ?_ _) | (with_reducible refine Kd.C_drewN ?_ _) | (with_reducible refine Kd.C_drew ?_))); (case side2 => first | exact HC0.out | exact Kd.V_mono HC0.out (fun k_ hk_ => by grind)); rintro e w' ⟨rfl, ⟨nd, rfl⟩⟩; refine ⟨_, rfl, ?_⟩; (try (rw [drewN_self w30]; generalize hq_ : World.drewN w30 _ = w30; have n0_ : Aside0 (w30.heap[gb273]? = some (.cells #[.int .i64 0, .slice none 0 0] 36 (0, 0))) := ⟨by rw [← hq_]; exact (mK BK273.out)⟩; have n1_ : Aside0 (Below w.heap.size w w30) := ⟨by rw [← hq_]; exact mZ⟩; clear BK273 HB hq_; have BK273 := n0_; have HB := n1_; clear n0_ n1_)); obtain ⟨hcz31_0, hcz31_1, hfz31_0, hfz31_1⟩ := cells_2 BK273.out))
  refine bodyPost_ret (results_ctt rfl _ _ gb273 36 #[.int .i64 0, .slice none 0 0] (0, 0) _ rfl (by (with_reducible repeat (first | refine blk_drewN ?_ _ | refine blk_drew ?_ | refine blk_alloc ?_ _)); apply puts_2; (with_reducible repeat (first | refine blk_drewN ?_ _ | refine blk_drew ?_ | refine blk_alloc ?_ _)); exact BK273.out) Try.underlying36 rfl (by kernel_rfl)) rfl ?_
  exact ⟨_, by first | rfl | (simp [errW_none, errW_some] <;> rfl) | (simp [*, errW_none, errW_some] <;> rfl), by first | exact Kd.R_nil _ _ _ _ _ | exact Kd.N_nil _ _ _ _ _ | exact Kd.V_nil _ _ _ _ _ | exact Kd.Q_nil _ _ _ _ _ | exact Kd.S_nil _ _ _ _ _, mZ⟩

/-! an append of a whole row, where little is left of what fits -/
theorem own_at_wide {P : Program} {w : World} {base : Nat} {t ty e : TypeId} {i : TypeInfo} {z : Value} (ht : P.underlying t = some (.slice e)) (hi : P.info? e = some i) (hz : i.zero = some z)
  (hsize : i.size = 1) (hby : i.bytes = 1) {v : Value} {n : Nat} {xs : List Value} (hown : w.ownsRow base e 1 v n xs) (a : Addr) (m c : Nat) (news : List Value) (hl : news.length = m * 1) (hnews : ∀ j u, news[j]? = some u → w.cell? (a.add j) = some u) (h1 : ∀ u ∈ news, u.oneCell' = true)
  (hb : n + m ≤ 141836999983104) {v' : Value} {w' : World} (hr : (Builtin.append_ #[t, t] ty #[v, .slice (some a) m c]).run P w = .ok v' w') : v'.ownBlock = v.ownBlock ∨ ∃ b, v'.ownBlock = some b ∧ w.heap.size ≤ b := by
 have hl' : news.length = m * i.size := by rw [hsize]; exact hl
 rcases hown.2 with ⟨rfl, rfl⟩ | ⟨g, cap, cur, rfl, hbg, hg, hnc, hcm, hcs, htake⟩
 ·by_cases hm : m = 0
  ·subst hm
   obtain rfl : news = [] := List.eq_nil_of_length_eq_zero (by simpa using hl)
   have e0 : (Builtin.append_ #[t, t] ty #[.slice none 0 0, .slice (some a) 0 c]).run P w = .ok (.slice none 0 0) w := by
    simp [Builtin.append_, run_underlying ht, sizeOf, typeInfo, hi, Builtin.lenOf, Builtin.firstCells, loadCells, loadCellsFrom]
   rw [e0] at hr
   injection hr with hv _
   exact .inl (by rw [← hv])
  ·have h2 := run_append_nil (P := P) w t ty e i z ht hi hz a m c news hl' hnews (by omega) (by omega) (by rw [hby]; omega)
   rw [h2] at hr
   injection hr with hv _
   exact .inr ⟨w.heap.size, by rw [← hv]; rfl, Nat.le_refl _⟩
 ·by_cases hroom : n + m ≤ cap
  ·have hfit : n * i.size + news.length ≤ cur.size := by rw [hl', hsize, ← Nat.add_mul, hcs]; exact Nat.mul_le_mul_right _ hroom
   have h2 := run_append_room (P := P) w t ty e i ht hi g n cap cur hg a m c news hl' hnews h1 hroom hfit
   rw [h2] at hr
   injection hr with hv _
   exact .inl (by rw [← hv]; rfl)
  ·have holds : ∀ j u, xs[j]? = some u → w.cell? ((⟨g, 0, none⟩ : Addr).add j) = some u := hown.cells (g := g) rfl
   have h2 := run_append_grow (P := P) w t ty e i z ht hi hz ⟨g, 0, none⟩ n cap xs (by rw [hsize]; exact hown.1) holds a m c news hl' hnews (by omega) (by omega) (growslice_fits_wide (by omega) (by rw [hby]; omega))
   rw [h2] at hr
   injection hr with hv _
   exact .inr ⟨w.heap.size, by rw [← hv]; rfl, Nat.le_refl _⟩
theorem R_append_rows_wide {P : Program} {ops : Array Oper} {rest : List Oper} {o : Oper} {a : Act} {Q : Exit → Act → World → Prop} (d : Kd Int) (k : IntKind) (hd : d = Kd.int k) {w0 W : World} (base : Nat) (hgd : o.guard = none) (s x : Operand) (t e : TypeId) (z : Value)
  (ho : o.op = .call { callee := .builtin .append, args := #[s, x], argTypes := #[t, t] })
  (ht : P.underlying t = some (.slice e)) (hinfo : (P.info? e).map (fun i => (i.zero, i.size, i.bytes)) = some (some z, 1, 1)) (hz : z.cells.size = 1)
  (v : Value) (xs ys : List Int) (A : Option Addr) (m c : Nat) (ok : Nat → Prop) (hs : a.eval s = v) (hx : a.eval x = .slice A m c)
  (HO : (Kd.int k).R e W base ok v xs) (HR : (Kd.int k).C W A m ys) (hfresh : ∀ k, W.heap.size ≤ k → ok k)
  (HB : Below base w0 W) (hbase : base ≤ W.heap.size) (hl : xs.length + m ≤ 141836999983104)
  (h : ∀ v1 w1, (Kd.int k).R e w1 base ok v1 (xs ++ ys) → Below base w0 w1 → W.grownBy w1 v.ownBlock → (v1.ownBlock = v.ownBlock ∨ ∃ b, v1.ownBlock = some b ∧ W.heap.size ≤ b) → wpList P ops Q rest (a.put o.dst v1) w1) :
  wpList P ops Q (o :: rest) a W := by
 by_cases hsmall : (xs.length + m) * 1 ≤ 140737488355328
 ·exact Kd.R_append_row (Value.int k) 0 (h1 := fun _ => rfl) (w0 := w0) base hgd s x t e z 1 ho ht hinfo hz (by decide) v xs ys A m c ok hs hx hfresh HO HR HB hbase hsmall h
 obtain ⟨i0, hi, hzz⟩ := Option.map_eq_some_iff.1 hinfo
 simp only [Prod.mk.injEq] at hzz
 obtain ⟨hz0, hz1, hz2⟩ := hzz
 have HO' : W.ownsRow base e 1 v xs.length (encs (Value.int k) xs) := Kd.own_of_R (enc := Value.int k) (h1 := fun _ => rfl) HO
 have HR' : ReadsOf (Value.int k) 0 W A m ys := Kd.reads_of_C (h1 := fun _ => rfl) HR
 have hm : ys.length = m := HR'.1
 have hrun : ∃ v1 w1, (Builtin.append_ #[t, t] o.type #[v, .slice A m c]).run P W = .ok v1 w1 ∧ w1.ownsRow base e 1 v1 (xs ++ ys).length (encs (Value.int k) (xs ++ ys)) ∧ W.grownBy w1 v.ownBlock ∧ (v1.ownBlock = v.ownBlock ∨ ∃ b, v1.ownBlock = some b ∧ W.heap.size ≤ b) := by
  rcases A with _ | ad
  ·have h0 : m = 0 := by
    rcases Nat.eq_zero_or_pos m with h0 | h0
    ·exact h0
    ·obtain ⟨ad, h, _⟩ := HR'.2.2 h0
     cases h
   subst h0
   obtain rfl : ys = [] := List.eq_nil_of_length_eq_zero hm
   refine ⟨v, W, ?_, by simpa using HO', World.grownBy.refl W _, .inl rfl⟩
   rcases HO'.2 with ⟨rfl, hn⟩ | ⟨g, cap, cur, rfl, _, _, hnc, _⟩
   ·simp [Builtin.append_, run_underlying ht, sizeOf, typeInfo, hi, Builtin.lenOf, Builtin.firstCells]
   ·simp [Builtin.append_, run_underlying ht, sizeOf, typeInfo, hi, Builtin.lenOf, Builtin.firstCells, hnc, storeCells]
  ·have hcells : ∀ j u, (encs (Value.int k) ys)[j]? = some u → W.cell? (ad.add j) = some u := by
    intro j u hu
    have hj : j < ys.length := by
     rcases Nat.lt_or_ge j ys.length with h | h
     ·exact h
     ·simp [encs, List.getElem?_eq_none h] at hu
    obtain ⟨ad', h', hc⟩ := HR'.2.2 (by omega)
    injection h' with h'
    subst h'
    rw [encs_get (d := 0) ys j hj] at hu
    rw [← hu]
    exact hc j (by omega)
   have hone : ∀ u ∈ encs (Value.int k) ys, u.oneCell' = true := by
    intro u hu
    simp only [encs, List.mem_map] at hu
    obtain ⟨q, _, rfl⟩ := hu
    rfl
   obtain ⟨v1, w1, hr, h2, h3, _⟩ := run_append_own_wide (P := P) W base t o.type e i0 z 1 1 ht hi hz0 hz1 hz2 hz (by omega) v xs.length (encs (Value.int k) xs) HO' ad m c (encs (Value.int k) ys) (by simp [encs, hm]) hcells hone (by simp only [maxLen]; omega) (by omega) hbase
   exact ⟨v1, w1, hr, by simpa [encs, hm] using h2, h3, own_at_wide ht hi hz0 hz1 hz2 HO' ad m c _ (by simp [encs, hm]) hcells hone hl hr⟩
 obtain ⟨v1, w1, hr, hown, hg, hat⟩ := hrun
 refine wpList_plain hgd fun K hK => ?_
 unfold Oper.wp execOp
 simp only [ho, resolve, invoke, builtin, Sem.run_bind, Sem.run_pure, Result.andThen_ok, List.map_toArray, List.map_cons, List.map_nil, hs, hx, hr]
 refine hK _ _ (h v1 w1 (Kd.R_of_own (enc := Value.int k) (h1 := fun _ => rfl) hown (fun q hq => ?_)) (HB.grown hg hbase (own_base HO')) hg hat)
 rcases hat with e1 | ⟨b, e1, hbb⟩
 ·exact HO.1 q (by rw [← e1]; exact hq)
 ·rw [e1] at hq
  injection hq with hq
  subst hq
  exact hfresh _ hbb

end Go.Proofs.Ytifcocmmapgebaa.QBloomTells
