-- Written by a program of this session (wip/myprint.py): the machine's side of a law
import Derived.Test.YtifcocmmapgebaaQBloomTellsx0
import Derived.Test.YtifcocmmapgebaaQBloomTellsx2
namespace Go.Proofs.Ytifcocmmapgebaa.QBloomTells
open Go.RowKit Go.Proofs.YtifcocmmapgebaaW.PrintWords Go.Proofs.YtifcocmmapgebaaW.PrintLast Go.Proofs.YtifcocmmapgebaaW.PrintMore
attribute [local go_sem] max2_int min2_int max_two min_two max_three min_three max_four min_four   -- for this text's walks alone
set_option linter.unusedVariables false
set_option linter.unusedSimpArgs false

/-! ### varint_Get: function 44 -/
def varint_Get.l0 : Nat → Int → Int → Bool → List Int → Int → Int → Option (Int × Int × Int)
 | 0, _, _, _, _, _, _ => none
 | k + 1, x1, x7, x8, x21, x22, x23 => if x23 < x22 then (if 0 ≤ x23 then (if x23 < (x21.length : Int) then (if x23 < 10 then (if 0 ≤ (wrap64 (7 * x23)) then (if x8 = true then (if x23 < 9 then (if (rd x21 x23) > 127 then (varint_Get.l0 k x1 (Go.bits .or .u64 x7 (shl .u64 (IntKind.u64.wrap (Go.bits .and .u8 (rd x21 x23) 127)) (wrap64 (7 * x23)))) true x21 x22 (wrap64 (x23 + 1))) else (if x23 > 0 then (if (rd x21 x23) = 0 then (some (0, 0, 12)) else (some (Go.bits .or .u64 x7 (shl .u64 (IntKind.u64.wrap (Go.bits .and .u8 (rd x21 x23) 127)) (wrap64 (7 * x23))), wrap64 ((wrap64 (x1 + x23)) + 1), 0))) else (some (Go.bits .or .u64 x7 (shl .u64 (IntKind.u64.wrap (Go.bits .and .u8 (rd x21 x23) 127)) (wrap64 (7 * x23))), wrap64 ((wrap64 (x1 + x23)) + 1), 0)))) else (if x23 = 9 then (if (rd x21 x23) > 127 then (varint_Get.l0 k x1 (Go.bits .or .u64 x7 (shl .u64 (IntKind.u64.wrap (Go.bits .and .u8 (rd x21 x23) 127)) (wrap64 (7 * x23)))) (decide ((Go.bits .and .u8 (rd x21 x23) 127) < 2)) x21 x22 (wrap64 (x23 + 1))) else (if (Go.bits .and .u8 (rd x21 x23) 127) < 2 then (if x23 > 0 then (if (rd x21 x23) = 0 then (some (0, 0, 12)) else (some (Go.bits .or .u64 x7 (shl .u64 (IntKind.u64.wrap (Go.bits .and .u8 (rd x21 x23) 127)) (wrap64 (7 * x23))), wrap64 ((wrap64 (x1 + x23)) + 1), 0))) else (some (Go.bits .or .u64 x7 (shl .u64 (IntKind.u64.wrap (Go.bits .and .u8 (rd x21 x23) 127)) (wrap64 (7 * x23))), wrap64 ((wrap64 (x1 + x23)) + 1), 0))) else (some (0, 0, 12)))) else (if (rd x21 x23) > 127 then (varint_Get.l0 k x1 (Go.bits .or .u64 x7 (shl .u64 (IntKind.u64.wrap (Go.bits .and .u8 (rd x21 x23) 127)) (wrap64 (7 * x23)))) false x21 x22 (wrap64 (x23 + 1))) else (some (0, 0, 12))))) else (if (rd x21 x23) > 127 then (varint_Get.l0 k x1 (Go.bits .or .u64 x7 (shl .u64 (IntKind.u64.wrap (Go.bits .and .u8 (rd x21 x23) 127)) (wrap64 (7 * x23)))) false x21 x22 (wrap64 (x23 + 1))) else (some (0, 0, 12)))) else (none)) else (if x8 = true then (if x23 < 9 then (if (rd x21 x23) > 127 then (varint_Get.l0 k x1 x7 true x21 x22 (wrap64 (x23 + 1))) else (if x23 > 0 then (if (rd x21 x23) = 0 then (some (0, 0, 12)) else (some (x7, wrap64 ((wrap64 (x1 + x23)) + 1), 0))) else (some (x7, wrap64 ((wrap64 (x1 + x23)) + 1), 0)))) else (if x23 = 9 then (if (rd x21 x23) > 127 then (varint_Get.l0 k x1 x7 (decide ((Go.bits .and .u8 (rd x21 x23) 127) < 2)) x21 x22 (wrap64 (x23 + 1))) else (if (Go.bits .and .u8 (rd x21 x23) 127) < 2 then (if x23 > 0 then (if (rd x21 x23) = 0 then (some (0, 0, 12)) else (some (x7, wrap64 ((wrap64 (x1 + x23)) + 1), 0))) else (some (x7, wrap64 ((wrap64 (x1 + x23)) + 1), 0))) else (some (0, 0, 12)))) else (if (rd x21 x23) > 127 then (varint_Get.l0 k x1 x7 false x21 x22 (wrap64 (x23 + 1))) else (some (0, 0, 12))))) else (if (rd x21 x23) > 127 then (varint_Get.l0 k x1 x7 false x21 x22 (wrap64 (x23 + 1))) else (some (0, 0, 12))))) else (none)) else (none)) else (some (0, 0, 10))
def varint_Get.f (k : Nat) (l0 : List Int) (a1 : Int) : Option (Int × Int × Int) := if a1 < 0 then (some (0, 0, 1)) else (if a1 > (l0.length : Int) then (some (0, 0, 1)) else (if 0 ≤ a1 then (if a1 ≤ (l0.length : Int) then (varint_Get.l0 k a1 0 true (l0.drop (a1 : Int).toNat) ((l0.drop (a1 : Int).toNat).length : Int) 0) else (none)) else (none)))
theorem varint_Get.mono_l : ∀ k, (∀ y0 y1 y2 y3 y4 y5, LeO (varint_Get.l0 k y0 y1 y2 y3 y4 y5) (varint_Get.l0 (k + 1) y0 y1 y2 y3 y4 y5))
 | 0 => fun _ _ _ _ _ _ r h => by simp [varint_Get.l0] at h
 | k + 1 => by
  have ih0 := varint_Get.mono_l k
  ·intro y0 y1 y2 y3 y4 y5
   unfold varint_Get.l0
   repeat' first
   | (with_reducible exact ih0 _ _ _ _ _ _)
   | (with_reducible exact LeO.refl _)
   | (with_reducible exact LeO.none _)
   | (with_reducible refine LeO.ite ?_ ?_)
   | (with_reducible refine LeO.bind ?_ (fun _ => ?_))
   | exact ih0 _ _ _ _ _ _
   | exact LeO.none _
   | refine LeO.ite ?_ ?_
   | refine LeO.bind ?_ (fun _ => ?_)
theorem varint_Get.mono : ∀ a0 a1 k, LeO (varint_Get.f k a0 a1) (varint_Get.f (k + 1) a0 a1) := by
 intro a0 a1 k
 have ih0 := varint_Get.mono_l k
 unfold varint_Get.f
 repeat' first
   | (with_reducible exact ih0 _ _ _ _ _ _)
   | (with_reducible exact LeO.refl _)
   | (with_reducible exact LeO.none _)
   | (with_reducible refine LeO.ite ?_ ?_)
   | (with_reducible refine LeO.bind ?_ (fun _ => ?_))
   | exact ih0 _ _ _ _ _ _
   | exact LeO.none _
   | refine LeO.ite ?_ ?_
   | refine LeO.bind ?_ (fun _ => ?_)
set_option maxHeartbeats 8000000 in
set_option maxRecDepth 100000 in
theorem varint_Get.calls (k : Nat) (A0 : Option Addr) (c0 : Nat) (l0 : List Int) (a1 : Int) (r1 : Int) (r2 : Int) (r3 : Int) (w : World) (hr0 : Kd.C (Kd.int .u8) w A0 l0.length l0) (hc0 : l0.length ≤ c0) (h : varint_Get.f k l0 a1 = some (r1, r2, r3)) :
  Calls Try.prog 44 #[.slice A0 l0.length c0, .int .i64 a1] w fun e w' => e = .returned (.tuple #[.int .u64 r1, .int .i64 r2, .int .i64 r3]) ∧ Drawn0 w w' := by
 have HR0 := Aside0.mk hr0
 have HC0 := Aside0.mk hc0
 clear hr0 hc0
 have H : (if a1 < 0 then (some (0, 0, 1)) else (if a1 > (l0.length : Int) then (some (0, 0, 1)) else (if 0 ≤ a1 then (if a1 ≤ (l0.length : Int) then (varint_Get.l0 k a1 0 true (l0.drop (a1 : Int).toNat) ((l0.drop (a1 : Int).toNat).length : Int) 0) else (none)) else (none)))) = some (r1, r2, r3) := h
 clear h
 by_cases c3 : a1 < 0
 ·rw [if_pos c3] at H
  have c3b0 : decide (a1 < 0) = true := decide_eq_true c3
  clear c3
  simp only [Option.some.injEq, Prod.mk.injEq] at H
  obtain ⟨rfl, rfl, rfl⟩ := H
  go_enter Try.func44, Try.ntmps44
  go_wp2
  go_ret3
  exact ⟨by first | rfl | (simp; done) | (simp [*]; done), by repeat (first | exact Drawn0.refl _ | apply Drawn0.step)⟩
 ·rw [if_neg c3] at H
  have c3b0 : decide (a1 < 0) = false := decide_eq_false c3
  clear c3
  by_cases c4 : a1 > (l0.length : Int)
  ·rw [if_pos c4] at H
   have c4b0 : decide ((l0.length : Int) < a1) = true := decide_eq_true c4
   clear c4
   simp only [Option.some.injEq, Prod.mk.injEq] at H
   obtain ⟨rfl, rfl, rfl⟩ := H
   go_enter Try.func44, Try.ntmps44
   go_wp2
   go_ret3
   exact ⟨by first | rfl | (simp; done) | (simp [*]; done), by repeat (first | exact Drawn0.refl _ | apply Drawn0.step)⟩
  ·rw [if_neg c4] at H
   have c4b0 : decide ((l0.length : Int) < a1) = false := decide_eq_false c4
   clear c4
   by_cases c5 : 0 ≤ a1
   ·rw [if_pos c5] at H
    have c5b0 := eq_true c5
    have c5b1 : decide (0 ≤ a1) = true := decide_eq_true c5
    clear c5
    by_cases c6 : a1 ≤ (l0.length : Int)
    ·rw [if_pos c6] at H
     have c6b0 := eq_true c6
     have c6b1 : decide (a1 ≤ (l0.length : Int)) = true := decide_eq_true c6
     clear c6
     have H' := Aside0.mk H
     clear H
     obtain ⟨i07, hi07, _, hsz7, _⟩ := info_parts info5
     obtain ⟨A7, hcut7, hA7, hC7⟩ := print_drop_of (P := Try.prog) (Value.int .u8) 0 24 5 .i64 Try.underlying24 hi07 hsz7 A0 c0 l0 a1 (of_decide_eq_true (by first | (with_reducible assumption) | assumption)) (of_decide_eq_true (by first | (with_reducible assumption) | assumption)) HC0.out
     have HR254 := Aside0.mk (Kd.C_of_reads (h1 := fun _ => rfl) (hA7 _ (Kd.reads_of_C HR0.out)))
     have HC254 := Aside0.mk hC7
     clear hA7 hC7 hi07 hsz7
     go_enter Try.func44, Try.ntmps44
     go_wp2
     go_loopg [7, 8, 23] k (fun kq v7 v8 v23 w' => ∃ (x7_1 : Int) (x8_1 : Bool) (x23_1 : Int), v7 = .int .u64 x7_1 ∧ v8 = .bool x8_1 ∧ v23 = .int .i64 x23_1 ∧ Aside0 (varint_Get.l0 kq a1 x7_1 x8_1 (l0.drop (a1 : Int).toNat) ((l0.drop (a1 : Int).toNat).length : Int) x23_1 = some (r1, r2, r3)) ∧ Aside0 (kq ≤ k) ∧ Drawn0 w w')
     case atStart => exact ⟨(0), (true), (0), (by first | rfl | (simp; done) | (simp [*]; done)), (by first | rfl | (simp; done) | (simp [*]; done)), (by first | rfl | (simp; done) | (simp [*]; done)), H', ⟨Nat.le_refl _⟩, by repeat (first | exact Drawn0.refl _ | apply Drawn0.step)⟩
     case round =>
      clear H'
      try clear c3
      try clear c3b0
      try clear c4
      try clear c4b0
      try clear c5
      try clear c5b0
      try clear c5b1
      try clear c6
      try clear c6b0
      try clear c6b1
      obtain ⟨x7_1, x8_1, x23_1, rfl, rfl, rfl, HA, HK1, ⟨m1, rfl⟩⟩ := hrel
      cases gk with
      | zero => exact absurd HA.out (by simp [varint_Get.l0])
      | succ k1 =>
       have H := HA.out
       clear HA
       simp only [varint_Get.l0] at H
       by_cases c8 : x23_1 < ((l0.drop (a1 : Int).toNat).length : Int)
       ·rw [if_pos c8] at H
        have c8b0 : decide (x23_1 < ((l0.drop (a1 : Int).toNat).length : Int)) = true := decide_eq_true c8
        (try (have c8b0d := c8b0; simp only [List.length_drop, List.length_take] at c8b0d))
        clear c8
        by_cases c9 : 0 ≤ x23_1
        ·rw [if_pos c9] at H
         have c9b0 : decide (0 ≤ x23_1) = true := decide_eq_true c9
         clear c9
         by_cases c10 : x23_1 < ((l0.drop (a1 : Int).toNat).length : Int)
         ·rw [if_pos c10] at H
          have c10b0 : decide (x23_1 < ((l0.drop (a1 : Int).toNat).length : Int)) = true := decide_eq_true c10
          (try (have c10b0d := c10b0; simp only [List.length_drop, List.length_take] at c10b0d))
          clear c10
          by_cases c11 : x23_1 < 10
          ·rw [if_pos c11] at H
           have c11b0 : decide (x23_1 < 10) = true := decide_eq_true c11
           clear c11
           obtain ⟨ji12, hji12⟩ : ∃ j_ : Int, (wrap64 (7 * x23_1)) = j_ := ⟨_, rfl⟩
           replace H : (if 0 ≤ (ji12) then (if x8_1 = true then (if x23_1 < 9 then (if (rd (l0.drop (a1 : Int).toNat) x23_1) > 127 then (varint_Get.l0 k1 a1 (Go.bits .or .u64 x7_1 (shl .u64 (IntKind.u64.wrap (Go.bits .and .u8 (rd (l0.drop (a1 : Int).toNat) x23_1) 127)) (ji12))) true (l0.drop (a1 : Int).toNat) ((l0.drop (a1 : Int).toNat).length : Int) (wrap64 (x23_1 + 1))) else (if x23_1 > 0 then (if (rd (l0.drop (a1 : Int).toNat) x23_1) = 0 then (some (0, 0, 12)) else (some (Go.bits .or .u64 x7_1 (shl .u64 (IntKind.u64.wrap (Go.bits .and .u8 (rd (l0.drop (a1 : Int).toNat) x23_1) 127)) (ji12)), wrap64 ((wrap64 (a1 + x23_1)) + 1), 0))) else (some (Go.bits .or .u64 x7_1 (shl .u64 (IntKind.u64.wrap (Go.bits .and .u8 (rd (l0.drop (a1 : Int).toNat) x23_1) 127)) (ji12)), wrap64 ((wrap64 (a1 + x23_1)) + 1), 0)))) else (if x23_1 = 9 then (if (rd (l0.drop (a1 : Int).toNat) x23_1) > 127 then (varint_Get.l0 k1 a1 (Go.bits .or .u64 x7_1 (shl .u64 (IntKind.u64.wrap (Go.bits .and .u8 (rd (l0.drop (a1 : Int).toNat) x23_1) 127)) (ji12))) (decide ((Go.bits .and .u8 (rd (l0.drop (a1 : Int).toNat) x23_1) 127) < 2)) (l0.drop (a1 : Int).toNat) ((l0.drop (a1 : Int).toNat).length : Int) (wrap64 (x23_1 + 1))) else (if (Go.bits .and .u8 (rd (l0.drop (a1 : Int).toNat) x23_1) 127) < 2 then (if x23_1 > 0 then (if (rd (l0.drop (a1 : Int).toNat) x23_1) = 0 then (some (0, 0, 12)) else (some (Go.bits .or .u64 x7_1 (shl .u64 (IntKind.u64.wrap (Go.bits .and .u8 (rd (l0.drop (a1 : Int).toNat) x23_1) 127)) (ji12)), wrap64 ((wrap64 (a1 + x23_1)) + 1), 0))) else (some (Go.bits .or .u64 x7_1 (shl .u64 (IntKind.u64.wrap (Go.bits .and .u8 (rd (l0.drop (a1 : Int).toNat) x23_1) 127)) (ji12)), wrap64 ((wrap64 (a1 + x23_1)) + 1), 0))) else (some (0, 0, 12)))) else (if (rd (l0.drop (a1 : Int).toNat) x23_1) > 127 then (varint_Get.l0 k1 a1 (Go.bits .or .u64 x7_1 (shl .u64 (IntKind.u64.wrap (Go.bits .and .u8 (rd (l0.drop (a1 : Int).toNat) x23_1) 127)) (ji12))) false (l0.drop (a1 : Int).toNat) ((l0.drop (a1 : Int).toNat).length : Int) (wrap64 (x23_1 + 1))) else (some (0, 0, 12))))) else (if (rd (l0.drop (a1 : Int).toNat) x23_1) > 127 then (varint_Get.l0 k1 a1 (Go.bits .or .u64 x7_1 (shl .u64 (IntKind.u64.wrap (Go.bits .and .u8 (rd (l0.drop (a1 : Int).toNat) x23_1) 127)) (ji12))) false (l0.drop (a1 : Int).toNat) ((l0.drop (a1 : Int).toNat).length : Int) (wrap64 (x23_1 + 1))) else (some (0, 0, 12)))) else (none)) = some (r1, r2, r3) := by first | (rw [hji12] at H; exact H) | (simp only [hji12] at H ⊢; exact H)
           have hji12w : (IntKind.i64.wrap (7 * x23_1)) = ji12 := (i64_w _).trans hji12
           by_cases c13 : 0 ≤ (ji12)
           ·rw [if_pos c13] at H
            have c13b0 := eq_true c13
            have c13b1 : decide (0 ≤ (ji12)) = true := decide_eq_true c13
            clear c13
            obtain ⟨ji14, hji14⟩ : ∃ j_ : Int, (shl .u64 (IntKind.u64.wrap (Go.bits .and .u8 (rd (l0.drop (a1 : Int).toNat) x23_1) 127)) (ji12)) = j_ := ⟨_, rfl⟩
            replace H : (if x8_1 = true then (if x23_1 < 9 then (if (rd (l0.drop (a1 : Int).toNat) x23_1) > 127 then (varint_Get.l0 k1 a1 (Go.bits .or .u64 x7_1 (ji14)) true (l0.drop (a1 : Int).toNat) ((l0.drop (a1 : Int).toNat).length : Int) (wrap64 (x23_1 + 1))) else (if x23_1 > 0 then (if (rd (l0.drop (a1 : Int).toNat) x23_1) = 0 then (some (0, 0, 12)) else (some (Go.bits .or .u64 x7_1 (ji14), wrap64 ((wrap64 (a1 + x23_1)) + 1), 0))) else (some (Go.bits .or .u64 x7_1 (ji14), wrap64 ((wrap64 (a1 + x23_1)) + 1), 0)))) else (if x23_1 = 9 then (if (rd (l0.drop (a1 : Int).toNat) x23_1) > 127 then (varint_Get.l0 k1 a1 (Go.bits .or .u64 x7_1 (ji14)) (decide ((Go.bits .and .u8 (rd (l0.drop (a1 : Int).toNat) x23_1) 127) < 2)) (l0.drop (a1 : Int).toNat) ((l0.drop (a1 : Int).toNat).length : Int) (wrap64 (x23_1 + 1))) else (if (Go.bits .and .u8 (rd (l0.drop (a1 : Int).toNat) x23_1) 127) < 2 then (if x23_1 > 0 then (if (rd (l0.drop (a1 : Int).toNat) x23_1) = 0 then (some (0, 0, 12)) else (some (Go.bits .or .u64 x7_1 (ji14), wrap64 ((wrap64 (a1 + x23_1)) + 1), 0))) else (some (Go.bits .or .u64 x7_1 (ji14), wrap64 ((wrap64 (a1 + x23_1)) + 1), 0))) else (some (0, 0, 12)))) else (if (rd (l0.drop (a1 : Int).toNat) x23_1) > 127 then (varint_Get.l0 k1 a1 (Go.bits .or .u64 x7_1 (ji14)) false (l0.drop (a1 : Int).toNat) ((l0.drop (a1 : Int).toNat).length : Int) (wrap64 (x23_1 + 1))) else (some (0, 0, 12))))) else (if (rd (l0.drop (a1 : Int).toNat) x23_1) > 127 then (varint_Get.l0 k1 a1 (Go.bits .or .u64 x7_1 (ji14)) false (l0.drop (a1 : Int).toNat) ((l0.drop (a1 : Int).toNat).length : Int) (wrap64 (x23_1 + 1))) else (some (0, 0, 12)))) = some (r1, r2, r3) := by first | (rw [hji14] at H; exact H) | (simp only [hji14] at H ⊢; exact H)
            have hji14_ : (IntKind.u64.wrap ((IntKind.u64.wrap (Go.bits .and .u8 (rd (l0.drop (a1 : Int).toNat) x23_1) 127)) * 2 ^ min (ji12).toNat 64)) = ji14 := hji14
            have hji14z : (ji12) ≤ 64 → (IntKind.u64.wrap ((IntKind.u64.wrap (Go.bits .and .u8 (rd (l0.drop (a1 : Int).toNat) x23_1) 127)) * 2 ^ (ji12).toNat)) = ji14 := shl_small hji14
            by_cases c15 : x8_1 = true
            ·subst c15
             have H1 : (if x23_1 < 9 then (if (rd (l0.drop (a1 : Int).toNat) x23_1) > 127 then (varint_Get.l0 k1 a1 (Go.bits .or .u64 x7_1 (ji14)) true (l0.drop (a1 : Int).toNat) ((l0.drop (a1 : Int).toNat).length : Int) (wrap64 (x23_1 + 1))) else (if x23_1 > 0 then (if (rd (l0.drop (a1 : Int).toNat) x23_1) = 0 then (some (0, 0, 12)) else (some (Go.bits .or .u64 x7_1 (ji14), wrap64 ((wrap64 (a1 + x23_1)) + 1), 0))) else (some (Go.bits .or .u64 x7_1 (ji14), wrap64 ((wrap64 (a1 + x23_1)) + 1), 0)))) else (if x23_1 = 9 then (if (rd (l0.drop (a1 : Int).toNat) x23_1) > 127 then (varint_Get.l0 k1 a1 (Go.bits .or .u64 x7_1 (ji14)) (decide ((Go.bits .and .u8 (rd (l0.drop (a1 : Int).toNat) x23_1) 127) < 2)) (l0.drop (a1 : Int).toNat) ((l0.drop (a1 : Int).toNat).length : Int) (wrap64 (x23_1 + 1))) else (if (Go.bits .and .u8 (rd (l0.drop (a1 : Int).toNat) x23_1) 127) < 2 then (if x23_1 > 0 then (if (rd (l0.drop (a1 : Int).toNat) x23_1) = 0 then (some (0, 0, 12)) else (some (Go.bits .or .u64 x7_1 (ji14), wrap64 ((wrap64 (a1 + x23_1)) + 1), 0))) else (some (Go.bits .or .u64 x7_1 (ji14), wrap64 ((wrap64 (a1 + x23_1)) + 1), 0))) else (some (0, 0, 12)))) else (if (rd (l0.drop (a1 : Int).toNat) x23_1) > 127 then (varint_Get.l0 k1 a1 (Go.bits .or .u64 x7_1 (ji14)) false (l0.drop (a1 : Int).toNat) ((l0.drop (a1 : Int).toNat).length : Int) (wrap64 (x23_1 + 1))) else (some (0, 0, 12))))) = some (r1, r2, r3) := by rw [if_pos rfl] at H; exact H
             clear H
             have H := H1
             clear H1
             by_cases c16 : x23_1 < 9
             ·rw [if_pos c16] at H
              have c16b0 : decide (x23_1 < 9) = true := decide_eq_true c16
              clear c16
              by_cases c17 : (rd (l0.drop (a1 : Int).toNat) x23_1) > 127
              ·rw [if_pos c17] at H
               have c17b0 : decide (127 < (rd (l0.drop (a1 : Int).toNat) x23_1)) = true := decide_eq_true c17
               clear c17
               have H' := Aside0.mk H
               clear H
               have p255 : 0 ≤ (x23_1 : Int) := of_decide_eq_true (by first | (with_reducible assumption) | assumption)
               have q255 : x23_1 < ((l0.drop (a1 : Int).toNat).length : Int) := of_decide_eq_true (by first | (with_reducible assumption) | assumption)
               obtain ⟨ad255, e255, hx255_0⟩ := Kd.at_int HR254.out x23_1 p255 q255
               cases e255
               replace p255 := eq_true p255
               replace q255 := eq_true q255
               (try (have q255d := q255; simp only [List.length_drop, List.length_take] at q255d))
               go_wp2
               go_roundg k1
               case measure => have := HK1.out; omega
               case rel => exact ⟨(Go.bits .or .u64 x7_1 (ji14)), (true), (wrap64 (x23_1 + 1)), (by first | rfl | (simp; done) | (simp only [← hji14] <;> (first | rfl | simp)) | (simp [*]; done)), (by first | rfl | (simp; done) | (simp [*]; done)), (by first | rfl | (simp; done) | (simp [*]; done)), H', ⟨by have := HK1.out; omega⟩, by repeat (first | exact Drawn0.refl _ | apply Drawn0.step)⟩
              ·rw [if_neg c17] at H
               have c17b0 : decide (127 < (rd (l0.drop (a1 : Int).toNat) x23_1)) = false := decide_eq_false c17
               clear c17
               by_cases c18 : x23_1 > 0
               ·rw [if_pos c18] at H
                have c18b0 : decide (0 < x23_1) = true := decide_eq_true c18
                clear c18
                by_cases c19 : (rd (l0.drop (a1 : Int).toNat) x23_1) = 0
                ·rw [if_pos c19] at H
                 have c19b0 : ((rd (l0.drop (a1 : Int).toNat) x23_1) == 0) = true := beq_iff_eq.mpr c19
                 have c19b1 : ((rd (l0.drop (a1 : Int).toNat) x23_1) != 0) = false := bne_eq_false_iff_eq.mpr c19
                 clear c19
                 simp only [Option.some.injEq, Prod.mk.injEq] at H
                 obtain ⟨rfl, rfl, rfl⟩ := H
                 have p255 : 0 ≤ (x23_1 : Int) := of_decide_eq_true (by first | (with_reducible assumption) | assumption)
                 have q255 : x23_1 < ((l0.drop (a1 : Int).toNat).length : Int) := of_decide_eq_true (by first | (with_reducible assumption) | assumption)
                 obtain ⟨ad255, e255, hx255_0⟩ := Kd.at_int HR254.out x23_1 p255 q255
                 cases e255
                 replace p255 := eq_true p255
                 replace q255 := eq_true q255
                 (try (have q255d := q255; simp only [List.length_drop, List.length_take] at q255d))
                 go_wp2
                 go_ret3
                 exact ⟨by first | rfl | (simp; done) | (simp only [← hji12, ← hji14] <;> (first | rfl | simp)) | (simp [*]; done), by repeat (first | exact Drawn0.refl _ | apply Drawn0.step)⟩
                ·rw [if_neg c19] at H
                 have c19b0 : ((rd (l0.drop (a1 : Int).toNat) x23_1) == 0) = false := beq_eq_false_iff_ne.mpr c19
                 have c19b1 : ((rd (l0.drop (a1 : Int).toNat) x23_1) != 0) = true := bne_iff_ne.mpr c19
                 simp only [Option.some.injEq, Prod.mk.injEq] at H
                 obtain ⟨rfl, rfl, rfl⟩ := H
                 have p255 : 0 ≤ (x23_1 : Int) := of_decide_eq_true (by first | (with_reducible assumption) | assumption)
                 have q255 : x23_1 < ((l0.drop (a1 : Int).toNat).length : Int) := of_decide_eq_true (by first | (with_reducible assumption) | assumption)
                 obtain ⟨ad255, e255, hx255_0⟩ := Kd.at_int HR254.out x23_1 p255 q255
                 cases e255
                 replace p255 := eq_true p255
                 replace q255 := eq_true q255
                 (try (have q255d := q255; simp only [List.length_drop, List.length_take] at q255d))
                 go_wp2
                 go_ret3
                 exact ⟨by first | rfl | (simp; done) | (simp only [← hji12, ← hji14] <;> (first | rfl | simp)) | (simp [*]; done), by repeat (first | exact Drawn0.refl _ | apply Drawn0.step)⟩
               ·rw [if_neg c18] at H
                have c18b0 : decide (0 < x23_1) = false := decide_eq_false c18
                clear c18
                simp only [Option.some.injEq, Prod.mk.injEq] at H
                obtain ⟨rfl, rfl, rfl⟩ := H
                have p255 : 0 ≤ (x23_1 : Int) := of_decide_eq_true (by first | (with_reducible assumption) | assumption)
                have q255 : x23_1 < ((l0.drop (a1 : Int).toNat).length : Int) := of_decide_eq_true (by first | (with_reducible assumption) | assumption)
                obtain ⟨ad255, e255, hx255_0⟩ := Kd.at_int HR254.out x23_1 p255 q255
                cases e255
                replace p255 := eq_true p255
                replace q255 := eq_true q255
                (try (have q255d := q255; simp only [List.length_drop, List.length_take] at q255d))
                go_wp2
                go_ret3
                exact ⟨by first | rfl | (simp; done) | (simp only [← hji12, ← hji14] <;> (first | rfl | simp)) | (simp [*]; done), by repeat (first | exact Drawn0.refl _ | apply Drawn0.step)⟩
             ·rw [if_neg c16] at H
              have c16b0 : decide (x23_1 < 9) = false := decide_eq_false c16
              clear c16
              by_cases c20 : x23_1 = 9
              ·rw [if_pos c20] at H
               have c20b0 : (x23_1 == 9) = true := beq_iff_eq.mpr c20
               have c20b1 : (x23_1 != 9) = false := bne_eq_false_iff_eq.mpr c20
               clear c20
               by_cases c21 : (rd (l0.drop (a1 : Int).toNat) x23_1) > 127
               ·rw [if_pos c21] at H
                have c21b0 : decide (127 < (rd (l0.drop (a1 : Int).toNat) x23_1)) = true := decide_eq_true c21
                clear c21
                have H' := Aside0.mk H
                clear H
                have p255 : 0 ≤ (x23_1 : Int) := of_decide_eq_true (by first | (with_reducible assumption) | assumption)
                have q255 : x23_1 < ((l0.drop (a1 : Int).toNat).length : Int) := of_decide_eq_true (by first | (with_reducible assumption) | assumption)
                obtain ⟨ad255, e255, hx255_0⟩ := Kd.at_int HR254.out x23_1 p255 q255
                cases e255
                replace p255 := eq_true p255
                replace q255 := eq_true q255
                (try (have q255d := q255; simp only [List.length_drop, List.length_take] at q255d))
                go_wp2
                go_roundg k1
                case measure => have := HK1.out; omega
                case rel => exact ⟨(Go.bits .or .u64 x7_1 (ji14)), (decide ((Go.bits .and .u8 (rd (l0.drop (a1 : Int).toNat) x23_1) 127) < 2)), (wrap64 (x23_1 + 1)), (by first | rfl | (simp; done) | (simp only [← hji14] <;> (first | rfl | simp)) | (simp [*]; done)), (by first | rfl | (simp; done) | (simp [*]; done)), (by first | rfl | (simp; done) | (simp [*]; done)), H', ⟨by have := HK1.out; omega⟩, by repeat (first | exact Drawn0.refl _ | apply Drawn0.step)⟩
               ·rw [if_neg c21] at H
                have c21b0 : decide (127 < (rd (l0.drop (a1 : Int).toNat) x23_1)) = false := decide_eq_false c21
                clear c21
                by_cases c22 : (Go.bits .and .u8 (rd (l0.drop (a1 : Int).toNat) x23_1) 127) < 2
                ·rw [if_pos c22] at H
                 have c22b0 : decide ((Go.bits .and .u8 (rd (l0.drop (a1 : Int).toNat) x23_1) 127) < 2) = true := decide_eq_true c22
                 clear c22
                 by_cases c23 : x23_1 > 0
                 ·rw [if_pos c23] at H
                  have c23b0 : decide (0 < x23_1) = true := decide_eq_true c23
                  clear c23
                  by_cases c24 : (rd (l0.drop (a1 : Int).toNat) x23_1) = 0
                  ·rw [if_pos c24] at H
                   have c24b0 : ((rd (l0.drop (a1 : Int).toNat) x23_1) == 0) = true := beq_iff_eq.mpr c24
                   have c24b1 : ((rd (l0.drop (a1 : Int).toNat) x23_1) != 0) = false := bne_eq_false_iff_eq.mpr c24
                   clear c24
                   simp only [Option.some.injEq, Prod.mk.injEq] at H
                   obtain ⟨rfl, rfl, rfl⟩ := H
                   have p255 : 0 ≤ (x23_1 : Int) := of_decide_eq_true (by first | (with_reducible assumption) | assumption)
                   have q255 : x23_1 < ((l0.drop (a1 : Int).toNat).length : Int) := of_decide_eq_true (by first | (with_reducible assumption) | assumption)
                   obtain ⟨ad255, e255, hx255_0⟩ := Kd.at_int HR254.out x23_1 p255 q255
                   cases e255
                   replace p255 := eq_true p255
                   replace q255 := eq_true q255
                   (try (have q255d := q255; simp only [List.length_drop, List.length_take] at q255d))
                   go_wp2
                   go_ret3
                   exact ⟨by first | rfl | (simp; done) | (simp only [← hji12, ← hji14] <;> (first | rfl | simp)) | (simp [*]; done), by repeat (first | exact Drawn0.refl _ | apply Drawn0.step)⟩
                  ·rw [if_neg c24] at H
                   have c24b0 : ((rd (l0.drop (a1 : Int).toNat) x23_1) == 0) = false := beq_eq_false_iff_ne.mpr c24
                   have c24b1 : ((rd (l0.drop (a1 : Int).toNat) x23_1) != 0) = true := bne_iff_ne.mpr c24
                   simp only [Option.some.injEq, Prod.mk.injEq] at H
                   obtain ⟨rfl, rfl, rfl⟩ := H
                   have p255 : 0 ≤ (x23_1 : Int) := of_decide_eq_true (by first | (with_reducible assumption) | assumption)
                   have q255 : x23_1 < ((l0.drop (a1 : Int).toNat).length : Int) := of_decide_eq_true (by first | (with_reducible assumption) | assumption)
                   obtain ⟨ad255, e255, hx255_0⟩ := Kd.at_int HR254.out x23_1 p255 q255
                   cases e255
                   replace p255 := eq_true p255
                   replace q255 := eq_true q255
                   (try (have q255d := q255; simp only [List.length_drop, List.length_take] at q255d))
                   go_wp2
                   go_ret3
                   exact ⟨by first | rfl | (simp; done) | (simp only [← hji12, ← hji14] <;> (first | rfl | simp)) | (simp [*]; done), by repeat (first | exact Drawn0.refl _ | apply Drawn0.step)⟩
                 ·rw [if_neg c23] at H
                  have c23b0 : decide (0 < x23_1) = false := decide_eq_false c23
                  clear c23
                  simp only [Option.some.injEq, Prod.mk.injEq] at H
                  obtain ⟨rfl, rfl, rfl⟩ := H
                  have p255 : 0 ≤ (x23_1 : Int) := of_decide_eq_true (by first | (with_reducible assumption) | assumption)
                  have q255 : x23_1 < ((l0.drop (a1 : Int).toNat).length : Int) := of_decide_eq_true (by first | (with_reducible assumption) | assumption)
                  obtain ⟨ad255, e255, hx255_0⟩ := Kd.at_int HR254.out x23_1 p255 q255
                  cases e255
                  replace p255 := eq_true p255
                  replace q255 := eq_true q255
                  (try (have q255d := q255; simp only [List.length_drop, List.length_take] at q255d))
                  go_wp2
                  go_ret3
                  exact ⟨by first | rfl | (simp; done) | (simp only [← hji12, ← hji14] <;> (first | rfl | simp)) | (simp [*]; done), by repeat (first | exact Drawn0.refl _ | apply Drawn0.step)⟩
                ·rw [if_neg c22] at H
                 have c22b0 : decide ((Go.bits .and .u8 (rd (l0.drop (a1 : Int).toNat) x23_1) 127) < 2) = false := decide_eq_false c22
                 clear c22
                 simp only [Option.some.injEq, Prod.mk.injEq] at H
                 obtain ⟨rfl, rfl, rfl⟩ := H
                 have p255 : 0 ≤ (x23_1 : Int) := of_decide_eq_true (by first | (with_reducible assumption) | assumption)
                 have q255 : x23_1 < ((l0.drop (a1 : Int).toNat).length : Int) := of_decide_eq_true (by first | (with_reducible assumption) | assumption)
                 obtain ⟨ad255, e255, hx255_0⟩ := Kd.at_int HR254.out x23_1 p255 q255
                 cases e255
                 replace p255 := eq_true p255
                 replace q255 := eq_true q255
                 (try (have q255d := q255; simp only [List.length_drop, List.length_take] at q255d))
                 go_wp2
                 go_ret3
                 exact ⟨by first | rfl | (simp; done) | (simp only [← hji12, ← hji14] <;> (first | rfl | simp)) | (simp [*]; done), by repeat (first | exact Drawn0.refl _ | apply Drawn0.step)⟩
              ·rw [if_neg c20] at H
               have c20b0 : (x23_1 == 9) = false := beq_eq_false_iff_ne.mpr c20
               have c20b1 : (x23_1 != 9) = true := bne_iff_ne.mpr c20
               by_cases c25 : (rd (l0.drop (a1 : Int).toNat) x23_1) > 127
               ·rw [if_pos c25] at H
                have c25b0 : decide (127 < (rd (l0.drop (a1 : Int).toNat) x23_1)) = true := decide_eq_true c25
                clear c25
                have H' := Aside0.mk H
                clear H
                have p255 : 0 ≤ (x23_1 : Int) := of_decide_eq_true (by first | (with_reducible assumption) | assumption)
                have q255 : x23_1 < ((l0.drop (a1 : Int).toNat).length : Int) := of_decide_eq_true (by first | (with_reducible assumption) | assumption)
                obtain ⟨ad255, e255, hx255_0⟩ := Kd.at_int HR254.out x23_1 p255 q255
                cases e255
                replace p255 := eq_true p255
                replace q255 := eq_true q255
                (try (have q255d := q255; simp only [List.length_drop, List.length_take] at q255d))
                go_wp2
                go_roundg k1
                case measure => have := HK1.out; omega
                case rel => exact ⟨(Go.bits .or .u64 x7_1 (ji14)), (false), (wrap64 (x23_1 + 1)), (by first | rfl | (simp; done) | (simp only [← hji14] <;> (first | rfl | simp)) | (simp [*]; done)), (by first | rfl | (simp; done) | (simp [*]; done)), (by first | rfl | (simp; done) | (simp [*]; done)), H', ⟨by have := HK1.out; omega⟩, by repeat (first | exact Drawn0.refl _ | apply Drawn0.step)⟩
               ·rw [if_neg c25] at H
                have c25b0 : decide (127 < (rd (l0.drop (a1 : Int).toNat) x23_1)) = false := decide_eq_false c25
                clear c25
                simp only [Option.some.injEq, Prod.mk.injEq] at H
                obtain ⟨rfl, rfl, rfl⟩ := H
                have p255 : 0 ≤ (x23_1 : Int) := of_decide_eq_true (by first | (with_reducible assumption) | assumption)
                have q255 : x23_1 < ((l0.drop (a1 : Int).toNat).length : Int) := of_decide_eq_true (by first | (with_reducible assumption) | assumption)
                obtain ⟨ad255, e255, hx255_0⟩ := Kd.at_int HR254.out x23_1 p255 q255
                cases e255
                replace p255 := eq_true p255
                replace q255 := eq_true q255
                (try (have q255d := q255; simp only [List.length_drop, List.length_take] at q255d))
                go_wp2
                go_ret3
                exact ⟨by first | rfl | (simp; done) | (simp only [← hji12, ← hji14] <;> (first | rfl | simp)) | (simp [*]; done), by repeat (first | exact Drawn0.refl _ | apply Drawn0.step)⟩
            ·replace c15 := Bool.eq_false_iff.mpr c15
             subst c15
             have H1 : (if (rd (l0.drop (a1 : Int).toNat) x23_1) > 127 then (varint_Get.l0 k1 a1 (Go.bits .or .u64 x7_1 (ji14)) false (l0.drop (a1 : Int).toNat) ((l0.drop (a1 : Int).toNat).length : Int) (wrap64 (x23_1 + 1))) else (some (0, 0, 12))) = some (r1, r2, r3) := by rw [if_neg (show ¬ (false = true) by decide)] at H; exact H
             clear H
             have H := H1
             clear H1
             by_cases c26 : (rd (l0.drop (a1 : Int).toNat) x23_1) > 127
             ·rw [if_pos c26] at H
              have c26b0 : decide (127 < (rd (l0.drop (a1 : Int).toNat) x23_1)) = true := decide_eq_true c26
              clear c26
              have H' := Aside0.mk H
              clear H
              have p255 : 0 ≤ (x23_1 : Int) := of_decide_eq_true (by first | (with_reducible assumption) | assumption)
              have q255 : x23_1 < ((l0.drop (a1 : Int).toNat).length : Int) := of_decide_eq_true (by first | (with_reducible assumption) | assumption)
              obtain ⟨ad255, e255, hx255_0⟩ := Kd.at_int HR254.out x23_1 p255 q255
              cases e255
              replace p255 := eq_true p255
              replace q255 := eq_true q255
              (try (have q255d := q255; simp only [List.length_drop, List.length_take] at q255d))
              go_wp2
              go_roundg k1
              case measure => have := HK1.out; omega
              case rel => exact ⟨(Go.bits .or .u64 x7_1 (ji14)), (false), (wrap64 (x23_1 + 1)), (by first | rfl | (simp; done) | (simp only [← hji14] <;> (first | rfl | simp)) | (simp [*]; done)), (by first | rfl | (simp; done) | (simp [*]; done)), (by first | rfl | (simp; done) | (simp [*]; done)), H', ⟨by have := HK1.out; omega⟩, by repeat (first | exact Drawn0.refl _ | apply Drawn0.step)⟩
             ·rw [if_neg c26] at H
              have c26b0 : decide (127 < (rd (l0.drop (a1 : Int).toNat) x23_1)) = false := decide_eq_false c26
              clear c26
              simp only [Option.some.injEq, Prod.mk.injEq] at H
              obtain ⟨rfl, rfl, rfl⟩ := H
              have p255 : 0 ≤ (x23_1 : Int) := of_decide_eq_true (by first | (with_reducible assumption) | assumption)
              have q255 : x23_1 < ((l0.drop (a1 : Int).toNat).length : Int) := of_decide_eq_true (by first | (with_reducible assumption) | assumption)
              obtain ⟨ad255, e255, hx255_0⟩ := Kd.at_int HR254.out x23_1 p255 q255
              cases e255
              replace p255 := eq_true p255
              replace q255 := eq_true q255
              (try (have q255d := q255; simp only [List.length_drop, List.length_take] at q255d))
              go_wp2
              go_ret3
              exact ⟨by first | rfl | (simp; done) | (simp only [← hji12, ← hji14] <;> (first | rfl | simp)) | (simp [*]; done), by repeat (first | exact Drawn0.refl _ | apply Drawn0.step)⟩
           ·rw [if_neg c13] at H
            exact absurd H (by simp)
          ·rw [if_neg c11] at H
           have c11b0 : decide (x23_1 < 10) = false := decide_eq_false c11
           clear c11
           by_cases c27 : x8_1 = true
           ·subst c27
            have H1 : (if x23_1 < 9 then (if (rd (l0.drop (a1 : Int).toNat) x23_1) > 127 then (varint_Get.l0 k1 a1 x7_1 true (l0.drop (a1 : Int).toNat) ((l0.drop (a1 : Int).toNat).length : Int) (wrap64 (x23_1 + 1))) else (if x23_1 > 0 then (if (rd (l0.drop (a1 : Int).toNat) x23_1) = 0 then (some (0, 0, 12)) else (some (x7_1, wrap64 ((wrap64 (a1 + x23_1)) + 1), 0))) else (some (x7_1, wrap64 ((wrap64 (a1 + x23_1)) + 1), 0)))) else (if x23_1 = 9 then (if (rd (l0.drop (a1 : Int).toNat) x23_1) > 127 then (varint_Get.l0 k1 a1 x7_1 (decide ((Go.bits .and .u8 (rd (l0.drop (a1 : Int).toNat) x23_1) 127) < 2)) (l0.drop (a1 : Int).toNat) ((l0.drop (a1 : Int).toNat).length : Int) (wrap64 (x23_1 + 1))) else (if (Go.bits .and .u8 (rd (l0.drop (a1 : Int).toNat) x23_1) 127) < 2 then (if x23_1 > 0 then (if (rd (l0.drop (a1 : Int).toNat) x23_1) = 0 then (some (0, 0, 12)) else (some (x7_1, wrap64 ((wrap64 (a1 + x23_1)) + 1), 0))) else (some (x7_1, wrap64 ((wrap64 (a1 + x23_1)) + 1), 0))) else (some (0, 0, 12)))) else (if (rd (l0.drop (a1 : Int).toNat) x23_1) > 127 then (varint_Get.l0 k1 a1 x7_1 false (l0.drop (a1 : Int).toNat) ((l0.drop (a1 : Int).toNat).length : Int) (wrap64 (x23_1 + 1))) else (some (0, 0, 12))))) = some (r1, r2, r3) := by rw [if_pos rfl] at H; exact H
            clear H
            have H := H1
            clear H1
            by_cases c28 : x23_1 < 9
            ·rw [if_pos c28] at H
             have c28b0 : decide (x23_1 < 9) = true := decide_eq_true c28
             clear c28
             by_cases c29 : (rd (l0.drop (a1 : Int).toNat) x23_1) > 127
             ·rw [if_pos c29] at H
              have c29b0 : decide (127 < (rd (l0.drop (a1 : Int).toNat) x23_1)) = true := decide_eq_true c29
              clear c29
              have H' := Aside0.mk H
              clear H
              have p255 : 0 ≤ (x23_1 : Int) := of_decide_eq_true (by first | (with_reducible assumption) | assumption)
              have q255 : x23_1 < ((l0.drop (a1 : Int).toNat).length : Int) := of_decide_eq_true (by first | (with_reducible assumption) | assumption)
              obtain ⟨ad255, e255, hx255_0⟩ := Kd.at_int HR254.out x23_1 p255 q255
              cases e255
              replace p255 := eq_true p255
              replace q255 := eq_true q255
              (try (have q255d := q255; simp only [List.length_drop, List.length_take] at q255d))
              go_wp2
              go_roundg k1
              case measure => have := HK1.out; omega
              case rel => exact ⟨(x7_1), (true), (wrap64 (x23_1 + 1)), (by first | rfl | (simp; done) | (simp [*]; done)), (by first | rfl | (simp; done) | (simp [*]; done)), (by first | rfl | (simp; done) | (simp [*]; done)), H', ⟨by have := HK1.out; omega⟩, by repeat (first | exact Drawn0.refl _ | apply Drawn0.step)⟩
             ·rw [if_neg c29] at H
              have c29b0 : decide (127 < (rd (l0.drop (a1 : Int).toNat) x23_1)) = false := decide_eq_false c29
              clear c29
              by_cases c30 : x23_1 > 0
              ·rw [if_pos c30] at H
               have c30b0 : decide (0 < x23_1) = true := decide_eq_true c30
               clear c30
               by_cases c31 : (rd (l0.drop (a1 : Int).toNat) x23_1) = 0
               ·rw [if_pos c31] at H
                have c31b0 : ((rd (l0.drop (a1 : Int).toNat) x23_1) == 0) = true := beq_iff_eq.mpr c31
                have c31b1 : ((rd (l0.drop (a1 : Int).toNat) x23_1) != 0) = false := bne_eq_false_iff_eq.mpr c31
                clear c31
                simp only [Option.some.injEq, Prod.mk.injEq] at H
                obtain ⟨rfl, rfl, rfl⟩ := H
                have p255 : 0 ≤ (x23_1 : Int) := of_decide_eq_true (by first | (with_reducible assumption) | assumption)
                have q255 : x23_1 < ((l0.drop (a1 : Int).toNat).length : Int) := of_decide_eq_true (by first | (with_reducible assumption) | assumption)
                obtain ⟨ad255, e255, hx255_0⟩ := Kd.at_int HR254.out x23_1 p255 q255
                cases e255
                replace p255 := eq_true p255
                replace q255 := eq_true q255
                (try (have q255d := q255; simp only [List.length_drop, List.length_take] at q255d))
                go_wp2
                go_ret3
                exact ⟨by first | rfl | (simp; done) | (simp [*]; done), by repeat (first | exact Drawn0.refl _ | apply Drawn0.step)⟩
               ·rw [if_neg c31] at H
                have c31b0 : ((rd (l0.drop (a1 : Int).toNat) x23_1) == 0) = false := beq_eq_false_iff_ne.mpr c31
                have c31b1 : ((rd (l0.drop (a1 : Int).toNat) x23_1) != 0) = true := bne_iff_ne.mpr c31
                simp only [Option.some.injEq, Prod.mk.injEq] at H
                obtain ⟨rfl, rfl, rfl⟩ := H
                have p255 : 0 ≤ (x23_1 : Int) := of_decide_eq_true (by first | (with_reducible assumption) | assumption)
                have q255 : x23_1 < ((l0.drop (a1 : Int).toNat).length : Int) := of_decide_eq_true (by first | (with_reducible assumption) | assumption)
                obtain ⟨ad255, e255, hx255_0⟩ := Kd.at_int HR254.out x23_1 p255 q255
                cases e255
                replace p255 := eq_true p255
                replace q255 := eq_true q255
                (try (have q255d := q255; simp only [List.length_drop, List.length_take] at q255d))
                go_wp2
                go_ret3
                exact ⟨by first | rfl | (simp; done) | (simp [*]; done), by repeat (first | exact Drawn0.refl _ | apply Drawn0.step)⟩
              ·rw [if_neg c30] at H
               have c30b0 : decide (0 < x23_1) = false := decide_eq_false c30
               clear c30
               simp only [Option.some.injEq, Prod.mk.injEq] at H
               obtain ⟨rfl, rfl, rfl⟩ := H
               have p255 : 0 ≤ (x23_1 : Int) := of_decide_eq_true (by first | (with_reducible assumption) | assumption)
               have q255 : x23_1 < ((l0.drop (a1 : Int).toNat).length : Int) := of_decide_eq_true (by first | (with_reducible assumption) | assumption)
               obtain ⟨ad255, e255, hx255_0⟩ := Kd.at_int HR254.out x23_1 p255 q255
               cases e255
               replace p255 := eq_true p255
               replace q255 := eq_true q255
               (try (have q255d := q255; simp only [List.length_drop, List.length_take] at q255d))
               go_wp2
               go_ret3
               exact ⟨by first | rfl | (simp; done) | (simp [*]; done), by repeat (first | exact Drawn0.refl _ | apply Drawn0.step)⟩
            ·rw [if_neg c28] at H
             have c28b0 : decide (x23_1 < 9) = false := decide_eq_false c28
             clear c28
             by_cases c32 : x23_1 = 9
             ·rw [if_pos c32] at H
              have c32b0 : (x23_1 == 9) = true := beq_iff_eq.mpr c32
              have c32b1 : (x23_1 != 9) = false := bne_eq_false_iff_eq.mpr c32
              clear c32
              by_cases c33 : (rd (l0.drop (a1 : Int).toNat) x23_1) > 127
              ·rw [if_pos c33] at H
               have c33b0 : decide (127 < (rd (l0.drop (a1 : Int).toNat) x23_1)) = true := decide_eq_true c33
               clear c33
               have H' := Aside0.mk H
               clear H
               have p255 : 0 ≤ (x23_1 : Int) := of_decide_eq_true (by first | (with_reducible assumption) | assumption)
               have q255 : x23_1 < ((l0.drop (a1 : Int).toNat).length : Int) := of_decide_eq_true (by first | (with_reducible assumption) | assumption)
               obtain ⟨ad255, e255, hx255_0⟩ := Kd.at_int HR254.out x23_1 p255 q255
               cases e255
               replace p255 := eq_true p255
               replace q255 := eq_true q255
               (try (have q255d := q255; simp only [List.length_drop, List.length_take] at q255d))
               go_wp2
               go_roundg k1
               case measure => have := HK1.out; omega
               case rel => exact ⟨(x7_1), (decide ((Go.bits .and .u8 (rd (l0.drop (a1 : Int).toNat) x23_1) 127) < 2)), (wrap64 (x23_1 + 1)), (by first | rfl | (simp; done) | (simp [*]; done)), (by first | rfl | (simp; done) | (simp [*]; done)), (by first | rfl | (simp; done) | (simp [*]; done)), H', ⟨by have := HK1.out; omega⟩, by repeat (first | exact Drawn0.refl _ | apply Drawn0.step)⟩
              ·rw [if_neg c33] at H
               have c33b0 : decide (127 < (rd (l0.drop (a1 : Int).toNat) x23_1)) = false := decide_eq_false c33
               clear c33
               by_cases c34 : (Go.bits .and .u8 (rd (l0.drop (a1 : Int).toNat) x23_1) 127) < 2
               ·rw [if_pos c34] at H
                have c34b0 : decide ((Go.bits .and .u8 (rd (l0.drop (a1 : Int).toNat) x23_1) 127) < 2) = true := decide_eq_true c34
                clear c34
                by_cases c35 : x23_1 > 0
                ·rw [if_pos c35] at H
                 have c35b0 : decide (0 < x23_1) = true := decide_eq_true c35
                 clear c35
                 by_cases c36 : (rd (l0.drop (a1 : Int).toNat) x23_1) = 0
                 ·rw [if_pos c36] at H
                  have c36b0 : ((rd (l0.drop (a1 : Int).toNat) x23_1) == 0) = true := beq_iff_eq.mpr c36
                  have c36b1 : ((rd (l0.drop (a1 : Int).toNat) x23_1) != 0) = false := bne_eq_false_iff_eq.mpr c36
                  clear c36
                  simp only [Option.some.injEq, Prod.mk.injEq] at H
                  obtain ⟨rfl, rfl, rfl⟩ := H
                  have p255 : 0 ≤ (x23_1 : Int) := of_decide_eq_true (by first | (with_reducible assumption) | assumption)
                  have q255 : x23_1 < ((l0.drop (a1 : Int).toNat).length : Int) := of_decide_eq_true (by first | (with_reducible assumption) | assumption)
                  obtain ⟨ad255, e255, hx255_0⟩ := Kd.at_int HR254.out x23_1 p255 q255
                  cases e255
                  replace p255 := eq_true p255
                  replace q255 := eq_true q255
                  (try (have q255d := q255; simp only [List.length_drop, List.length_take] at q255d))
                  go_wp2
                  go_ret3
                  exact ⟨by first | rfl | (simp; done) | (simp [*]; done), by repeat (first | exact Drawn0.refl _ | apply Drawn0.step)⟩
                 ·rw [if_neg c36] at H
                  have c36b0 : ((rd (l0.drop (a1 : Int).toNat) x23_1) == 0) = false := beq_eq_false_iff_ne.mpr c36
                  have c36b1 : ((rd (l0.drop (a1 : Int).toNat) x23_1) != 0) = true := bne_iff_ne.mpr c36
                  simp only [Option.some.injEq, Prod.mk.injEq] at H
                  obtain ⟨rfl, rfl, rfl⟩ := H
                  have p255 : 0 ≤ (x23_1 : Int) := of_decide_eq_true (by first | (with_reducible assumption) | assumption)
                  have q255 : x23_1 < ((l0.drop (a1 : Int).toNat).length : Int) := of_decide_eq_true (by first | (with_reducible assumption) | assumption)
                  obtain ⟨ad255, e255, hx255_0⟩ := Kd.at_int HR254.out x23_1 p255 q255
                  cases e255
                  replace p255 := eq_true p255
                  replace q255 := eq_true q255
                  (try (have q255d := q255; simp only [List.length_drop, List.length_take] at q255d))
                  go_wp2
                  go_ret3
                  exact ⟨by first | rfl | (simp; done) | (simp [*]; done), by repeat (first | exact Drawn0.refl _ | apply Drawn0.step)⟩
                ·rw [if_neg c35] at H
                 have c35b0 : decide (0 < x23_1) = false := decide_eq_false c35
                 clear c35
                 simp only [Option.some.injEq, Prod.mk.injEq] at H
                 obtain ⟨rfl, rfl, rfl⟩ := H
                 have p255 : 0 ≤ (x23_1 : Int) := of_decide_eq_true (by first | (with_reducible assumption) | assumption)
                 have q255 : x23_1 < ((l0.drop (a1 : Int).toNat).length : Int) := of_decide_eq_true (by first | (with_reducible assumption) | assumption)
                 obtain ⟨ad255, e255, hx255_0⟩ := Kd.at_int HR254.out x23_1 p255 q255
                 cases e255
                 replace p255 := eq_true p255
                 replace q255 := eq_true q255
                 (try (have q255d := q255; simp only [List.length_drop, List.length_take] at q255d))
                 go_wp2
                 go_ret3
                 exact ⟨by first | rfl | (simp; done) | (simp [*]; done), by repeat (first | exact Drawn0.refl _ | apply Drawn0.step)⟩
               ·rw [if_neg c34] at H
                have c34b0 : decide ((Go.bits .and .u8 (rd (l0.drop (a1 : Int).toNat) x23_1) 127) < 2) = false := decide_eq_false c34
                clear c34
                simp only [Option.some.injEq, Prod.mk.injEq] at H
                obtain ⟨rfl, rfl, rfl⟩ := H
                have p255 : 0 ≤ (x23_1 : Int) := of_decide_eq_true (by first | (with_reducible assumption) | assumption)
                have q255 : x23_1 < ((l0.drop (a1 : Int).toNat).length : Int) := of_decide_eq_true (by first | (with_reducible assumption) | assumption)
                obtain ⟨ad255, e255, hx255_0⟩ := Kd.at_int HR254.out x23_1 p255 q255
                cases e255
                replace p255 := eq_true p255
                replace q255 := eq_true q255
                (try (have q255d := q255; simp only [List.length_drop, List.length_take] at q255d))
                go_wp2
                go_ret3
                exact ⟨by first | rfl | (simp; done) | (simp [*]; done), by repeat (first | exact Drawn0.refl _ | apply Drawn0.step)⟩
             ·rw [if_neg c32] at H
              have c32b0 : (x23_1 == 9) = false := beq_eq_false_iff_ne.mpr c32
              have c32b1 : (x23_1 != 9) = true := bne_iff_ne.mpr c32
              by_cases c37 : (rd (l0.drop (a1 : Int).toNat) x23_1) > 127
              ·rw [if_pos c37] at H
               have c37b0 : decide (127 < (rd (l0.drop (a1 : Int).toNat) x23_1)) = true := decide_eq_true c37
               clear c37
               have H' := Aside0.mk H
               clear H
               have p255 : 0 ≤ (x23_1 : Int) := of_decide_eq_true (by first | (with_reducible assumption) | assumption)
               have q255 : x23_1 < ((l0.drop (a1 : Int).toNat).length : Int) := of_decide_eq_true (by first | (with_reducible assumption) | assumption)
               obtain ⟨ad255, e255, hx255_0⟩ := Kd.at_int HR254.out x23_1 p255 q255
               cases e255
               replace p255 := eq_true p255
               replace q255 := eq_true q255
               (try (have q255d := q255; simp only [List.length_drop, List.length_take] at q255d))
               go_wp2
               go_roundg k1
               case measure => have := HK1.out; omega
               case rel => exact ⟨(x7_1), (false), (wrap64 (x23_1 + 1)), (by first | rfl | (simp; done) | (simp [*]; done)), (by first | rfl | (simp; done) | (simp [*]; done)), (by first | rfl | (simp; done) | (simp [*]; done)), H', ⟨by have := HK1.out; omega⟩, by repeat (first | exact Drawn0.refl _ | apply Drawn0.step)⟩
              ·rw [if_neg c37] at H
               have c37b0 : decide (127 < (rd (l0.drop (a1 : Int).toNat) x23_1)) = false := decide_eq_false c37
               clear c37
               simp only [Option.some.injEq, Prod.mk.injEq] at H
               obtain ⟨rfl, rfl, rfl⟩ := H
               have p255 : 0 ≤ (x23_1 : Int) := of_decide_eq_true (by first | (with_reducible assumption) | assumption)
               have q255 : x23_1 < ((l0.drop (a1 : Int).toNat).length : Int) := of_decide_eq_true (by first | (with_reducible assumption) | assumption)
               obtain ⟨ad255, e255, hx255_0⟩ := Kd.at_int HR254.out x23_1 p255 q255
               cases e255
               replace p255 := eq_true p255
               replace q255 := eq_true q255
               (try (have q255d := q255; simp only [List.length_drop, List.length_take] at q255d))
               go_wp2
               go_ret3
               exact ⟨by first | rfl | (simp; done) | (simp [*]; done), by repeat (first | exact Drawn0.refl _ | apply Drawn0.step)⟩
           ·replace c27 := Bool.eq_false_iff.mpr c27
            subst c27
            have H1 : (if (rd (l0.drop (a1 : Int).toNat) x23_1) > 127 then (varint_Get.l0 k1 a1 x7_1 false (l0.drop (a1 : Int).toNat) ((l0.drop (a1 : Int).toNat).length : Int) (wrap64 (x23_1 + 1))) else (some (0, 0, 12))) = some (r1, r2, r3) := by rw [if_neg (show ¬ (false = true) by decide)] at H; exact H
            clear H
            have H := H1
            clear H1
            by_cases c38 : (rd (l0.drop (a1 : Int).toNat) x23_1) > 127
            ·rw [if_pos c38] at H
             have c38b0 : decide (127 < (rd (l0.drop (a1 : Int).toNat) x23_1)) = true := decide_eq_true c38
             clear c38
             have H' := Aside0.mk H
             clear H
             have p255 : 0 ≤ (x23_1 : Int) := of_decide_eq_true (by first | (with_reducible assumption) | assumption)
             have q255 : x23_1 < ((l0.drop (a1 : Int).toNat).length : Int) := of_decide_eq_true (by first | (with_reducible assumption) | assumption)
             obtain ⟨ad255, e255, hx255_0⟩ := Kd.at_int HR254.out x23_1 p255 q255
             cases e255
             replace p255 := eq_true p255
             replace q255 := eq_true q255
             (try (have q255d := q255; simp only [List.length_drop, List.length_take] at q255d))
             go_wp2
             go_roundg k1
             case measure => have := HK1.out; omega
             case rel => exact ⟨(x7_1), (false), (wrap64 (x23_1 + 1)), (by first | rfl | (simp; done) | (simp [*]; done)), (by first | rfl | (simp; done) | (simp [*]; done)), (by first | rfl | (simp; done) | (simp [*]; done)), H', ⟨by have := HK1.out; omega⟩, by repeat (first | exact Drawn0.refl _ | apply Drawn0.step)⟩
            ·rw [if_neg c38] at H
             have c38b0 : decide (127 < (rd (l0.drop (a1 : Int).toNat) x23_1)) = false := decide_eq_false c38
             clear c38
             simp only [Option.some.injEq, Prod.mk.injEq] at H
             obtain ⟨rfl, rfl, rfl⟩ := H
             have p255 : 0 ≤ (x23_1 : Int) := of_decide_eq_true (by first | (with_reducible assumption) | assumption)
             have q255 : x23_1 < ((l0.drop (a1 : Int).toNat).length : Int) := of_decide_eq_true (by first | (with_reducible assumption) | assumption)
             obtain ⟨ad255, e255, hx255_0⟩ := Kd.at_int HR254.out x23_1 p255 q255
             cases e255
             replace p255 := eq_true p255
             replace q255 := eq_true q255
             (try (have q255d := q255; simp only [List.length_drop, List.length_take] at q255d))
             go_wp2
             go_ret3
             exact ⟨by first | rfl | (simp; done) | (simp [*]; done), by repeat (first | exact Drawn0.refl _ | apply Drawn0.step)⟩
         ·rw [if_neg c10] at H
          exact absurd H (by simp)
        ·rw [if_neg c9] at H
         exact absurd H (by simp)
       ·rw [if_neg c8] at H
        have c8b0 : decide (x23_1 < ((l0.drop (a1 : Int).toNat).length : Int)) = false := decide_eq_false c8
        (try (have c8b0d := c8b0; simp only [List.length_drop, List.length_take] at c8b0d))
        clear c8
        simp only [Option.some.injEq, Prod.mk.injEq] at H
        obtain ⟨rfl, rfl, rfl⟩ := H
        go_wp2
        go_ret3
        exact ⟨by first | rfl | (simp; done) | (simp [*]; done), by repeat (first | exact Drawn0.refl _ | apply Drawn0.step)⟩
    ·rw [if_neg c6] at H
     exact absurd H (by simp)
   ·rw [if_neg c5] at H
    exact absurd H (by simp)

/-! ### varint_Small: function 34 -/
def varint_Small.f (k : Nat) (l0 : List Int) (a1 : Int) : Option (Int × Int × Int) := (varint_Get.f k l0 a1).bind fun bt256 => (some (wrap64 (mn bt256.1 1099511627776), bt256.2.1, bt256.2.2))
theorem varint_Small.mono : ∀ a0 a1 k, LeO (varint_Small.f k a0 a1) (varint_Small.f (k + 1) a0 a1) := by
 intro a0 a1 k
 unfold varint_Small.f
 repeat' first
   | (with_reducible exact varint_Get.mono _ _ _)
   | (with_reducible exact LeO.refl _)
   | (with_reducible exact LeO.none _)
   | (with_reducible refine LeO.ite ?_ ?_)
   | (with_reducible refine LeO.bind ?_ (fun _ => ?_))
   | exact varint_Get.mono _ _ _
   | exact LeO.none _
   | refine LeO.ite ?_ ?_
   | refine LeO.bind ?_ (fun _ => ?_)
set_option maxHeartbeats 8000000 in
set_option maxRecDepth 100000 in
theorem varint_Small.calls (k : Nat) (A0 : Option Addr) (c0 : Nat) (l0 : List Int) (a1 : Int) (r1 : Int) (r2 : Int) (r3 : Int) (w : World) (hr0 : Kd.C (Kd.int .u8) w A0 l0.length l0) (hc0 : l0.length ≤ c0) (h : varint_Small.f k l0 a1 = some (r1, r2, r3)) :
  Calls Try.prog 34 #[.slice A0 l0.length c0, .int .i64 a1] w fun e w' => e = .returned (.tuple #[.int .i64 r1, .int .i64 r2, .int .i64 r3]) ∧ Below w.heap.size w w' := by
 have HR0 := Aside0.mk hr0
 have HC0 := Aside0.mk hc0
 clear hr0 hc0
 have HB := Aside0.mk (Below.refl w.heap.size w)
 have H : ((varint_Get.f k l0 a1).bind fun bt256 => (some (wrap64 (mn bt256.1 1099511627776), bt256.2.1, bt256.2.2))) = some (r1, r2, r3) := h
 clear h
 replace H := Option.bind_eq_some_iff.mp H
 obtain ⟨⟨t256, t257, t258⟩, A30, H⟩ := H
 replace H : (some (wrap64 (mn t256 1099511627776), t257, t258)) = some (r1, r2, r3) := H
 have A3 := Aside0.mk A30
 clear A30
 obtain ⟨ji4, hji4⟩ : ∃ j_ : Int, (mn t256 1099511627776) = j_ := ⟨_, rfl⟩
 replace H : (some (wrap64 (ji4), t257, t258)) = some (r1, r2, r3) := by first | (rw [hji4] at H; exact H) | (simp only [hji4] at H ⊢; exact H)
 (try rw [hji4] at A3)
 (try (have hji4h : ji4 ≤ 1099511627776 := by (rw [← hji4]; unfold mn; (repeat' split) <;> omega)))
 (try (have hji4g : ji4 ≤ 64 := by omega))
 have hji4_ : (if 1099511627776 < t256 then 1099511627776 else t256) = ji4 := hji4
 simp only [Option.some.injEq, Prod.mk.injEq] at H
 obtain ⟨rfl, rfl, rfl⟩ := H
 go_enter Try.func34, Try.ntmps34
 go_wp2_with (first | ((with_reducible refine gate_callee (f := 44) rfl ?_); refine goesL_ (some 13) rfl rfl Try.func44 (by kernel_rfl) rfl #[.slice A0 l0.length c0, .int .i64 a1] rfl (by (try simp only [List.map_toArray, List.map_cons, List.map_nil]); first | done | rfl | (simp only [List.length_drop, List.length_take]; rfl)) ?_; (with_reducible refine (varint_Get.calls k _ _ l0 a1 t256 t257 t258 _ ?side1 ?side2 A3.out).mono ?_); (case side1 => repeat (first | exact HR0.out | (with_reducible refine Kd.C_alloc ?_ _) | (with_reducible refine Kd.C_drewN ?_ _) | (with_reducible refine Kd.C_drew ?_))); (case side2 => first | exact HC0.out | exact Kd.V_mono HC0.out (fun k_ hk_ => by grind)); rintro e w' ⟨rfl, ⟨nd, rfl⟩⟩; refine ⟨_, rfl, ?_⟩))
 go_ret3
 exact ⟨by first | rfl | (simp [errW_none, errW_some] <;> rfl) | (simp only [← hji4]; first | rfl | (simp [errW_none, errW_some] <;> rfl)) | (simp [*, errW_none, errW_some] <;> rfl), mB HB.out⟩

/-! ### slices_Clone_byte_byte: function 35 -/
/-! slices.Clone at []byte: by hand -/
def slices_Clone_byte_byte.f (l0 : List Int) : Option (List Int) := if l0.length < 140737488355328 then (some l0) else none
set_option maxHeartbeats 8000000 in
set_option maxRecDepth 100000 in
theorem slices_Clone_byte_byte.calls (A0 : Option Addr) (c0 : Nat) (l0 : List Int) (r : List Int) (w : World) (hr0 : Kd.C (Kd.int .u8) w A0 l0.length l0) (hc0 : l0.length ≤ c0) (h : slices_Clone_byte_byte.f l0 = some r) :
  Calls Try.prog 35 #[.slice A0 l0.length c0] w fun e w' => ∃ v0_ : Value, e = .returned (v0_) ∧ Kd.R (Kd.int .u8) 5 w' w.heap.size (fun _ => True) v0_ r ∧ Below w.heap.size w w' := by
 unfold slices_Clone_byte_byte.f at h
 by_cases hl : l0.length < 140737488355328
 ·rw [if_pos hl] at h
  obtain rfl := Option.some.inj h
  have HR0 := Aside0.mk hr0
  have HC0 := Aside0.mk hc0
  have HL0 := Aside0.mk hl
  have HB := Aside0.mk (Below.refl w.heap.size w)
  clear hc0 hl h
  cases A0 with
  | none =>
   have h0 : l0 = [] := by
    rcases Nat.eq_zero_or_pos l0.length with h0 | h0
    ·exact List.eq_nil_of_length_eq_zero h0
    ·obtain ⟨ad, e, _⟩ := hr0.2.2 h0
     cases e
   subst h0
   clear hr0
   have hq := Lib.run_eql_slice_nil (P := Try.prog)
   go_enter Try.func35, Try.ntmps35
   go_wp2
   go_ret
   exact ⟨_, rfl, Kd.R_nil _ _ _ _ _, HB.out⟩
  | some ad =>
   clear hr0
   have hq := Lib.run_eql_slice_nil (P := Try.prog)
   go_enter Try.func35, Try.ntmps35
   go_wp2_with (first | ((with_reducible refine gate_dst (N := 5) rfl ?_); refine Kd.R_lit (Kd.int .u8) _ 5 ?hg (N := 5) ?hd (xs := ([] : List Int)) (inner := []) (ok := fun _ => True) (okp := fun _ => True) ?hr ?hp (fun _ hk => hk) trivial (Below.refl _ _) (Nat.le_refl _) (by simp) ?_; (case hd => rfl); (case hg => rfl); (case hr => first | (go_simp; done) | (go_simp; rfl)); (case hp => exact (Reps.none _ _)); intro v1 w1 ho1 hb1 hg1 hn1; clear hg1 hn1; have HO := Aside0.mk ho1; have HB1 := Aside0.mk hb1; have HR1 := Aside0.mk (Kd.C_below HR0.out hb1); clear ho1 hb1) | ((with_reducible refine gate_builtin (b := .append) (xs := #[.tmp 5, .tmp 6]) rfl ?_); at_builtin; refine Kd.R_append_rows (Kd.int .u8) (w0 := w) w.heap.size rfl (.tmp 5) (.tmp 6) 24 5 (.int .u8 0) 1 rfl Try.underlying24 info5 rfl (by decide) (by omega) v1 [] l0 _ _ _ (fun _ => True) (fun _ => False) rfl rfl ?aO ?aR (fun _ _ h => h) (fun _ h => h.elim) ?aF ?aB ?aS ?aL ?_; (case aO => exact HO.out); (case aR => exact HR1.out); (case aB => exact HB1.out); (case aF => exact fun _ _ => trivial); (case aS => exact below_size HB1.out); (case aL => have := HL0.out; simp only [List.length_nil, Nat.zero_add]; omega); intro v2 w2 ho2 hb2 hg2 hat2; rw [List.nil_append] at ho2; have HO2 := Aside0.mk ho2; have HB2 := Aside0.mk hb2; clear ho2 hb2 hg2 hat2))
   go_ret
   exact ⟨_, rfl, HO2.out, HB2.out⟩
 ·rw [if_neg hl] at h
  cases h

/-! ### bloom_Decode: function 21 -/
def bloom_Decode.f (k : Nat) (l0 : List Int) (a1 : Int) : Option (Int × List Int × Int × Int) := (varint_Small.f k l0 a1).bind fun bt260 => (if bt260.2.2 = 0 then ((bloom_size.f bt260.1).bind fun t263 => (if t263 = true then (if (wrap64 ((l0.length : Int) - bt260.2.1)) < (wrap64 (Int.tdiv bt260.1 8)) then (some (0, ([] : List Int), 0, 10)) else (if 0 ≤ bt260.2.1 then (if bt260.2.1 ≤ (wrap64 (bt260.2.1 + (wrap64 (Int.tdiv bt260.1 8)))) then (if (wrap64 (bt260.2.1 + (wrap64 (Int.tdiv bt260.1 8)))) ≤ (l0.length : Int) then ((slices_Clone_byte_byte.f ((l0.take ((wrap64 (bt260.2.1 + (wrap64 (Int.tdiv bt260.1 8)))) : Int).toNat).drop (bt260.2.1 : Int).toNat)).bind fun t265 => (some (bt260.1, t265, wrap64 (bt260.2.1 + (wrap64 (Int.tdiv bt260.1 8))), 0))) else (none)) else (none)) else (none))) else (some (0, ([] : List Int), 0, 12)))) else (some (0, ([] : List Int), 0, bt260.2.2)))
theorem bloom_Decode.mono : ∀ a0 a1 k, LeO (bloom_Decode.f k a0 a1) (bloom_Decode.f (k + 1) a0 a1) := by
 intro a0 a1 k
 unfold bloom_Decode.f
 repeat' first
   | (with_reducible exact varint_Small.mono _ _ _)
   | (with_reducible exact LeO.refl _)
   | (with_reducible exact LeO.none _)
   | (with_reducible refine LeO.ite ?_ ?_)
   | (with_reducible refine LeO.bind ?_ (fun _ => ?_))
   | exact varint_Small.mono _ _ _
   | exact LeO.none _
   | refine LeO.ite ?_ ?_
   | refine LeO.bind ?_ (fun _ => ?_)
set_option maxHeartbeats 8000000 in
set_option maxRecDepth 100000 in
theorem bloom_Decode.calls (k : Nat) (A0 : Option Addr) (c0 : Nat) (l0 : List Int) (a1 : Int) (r1 : Int) (r2 : List Int) (r3 : Int) (r4 : Int) (w : World) (hr0 : Kd.C (Kd.int .u8) w A0 l0.length l0) (hc0 : l0.length ≤ c0) (h : bloom_Decode.f k l0 a1 = some (r1, r2, r3, r4)) :
  Calls Try.prog 21 #[.slice A0 l0.length c0, .int .i64 a1] w fun e w' => ∃ v1_ : Value, e = .returned (.tuple #[.agg #[.int .i64 r1, v1_], .int .i64 r3, .int .i64 r4]) ∧ Kd.R (Kd.int .u8) 5 w' w.heap.size (fun _ => True) v1_ r2 ∧ Below w.heap.size w w' := by
 have hu26 := Try.underlying26
 have HR0 := Aside0.mk hr0
 have HC0 := Aside0.mk hc0
 clear hr0 hc0
 have HB := Aside0.mk (Below.refl w.heap.size w)
 have H : ((varint_Small.f k l0 a1).bind fun bt260 => (if bt260.2.2 = 0 then ((bloom_size.f bt260.1).bind fun t263 => (if t263 = true then (if (wrap64 ((l0.length : Int) - bt260.2.1)) < (wrap64 (Int.tdiv bt260.1 8)) then (some (0, ([] : List Int), 0, 10)) else (if 0 ≤ bt260.2.1 then (if bt260.2.1 ≤ (wrap64 (bt260.2.1 + (wrap64 (Int.tdiv bt260.1 8)))) then (if (wrap64 (bt260.2.1 + (wrap64 (Int.tdiv bt260.1 8)))) ≤ (l0.length : Int) then ((slices_Clone_byte_byte.f ((l0.take ((wrap64 (bt260.2.1 + (wrap64 (Int.tdiv bt260.1 8)))) : Int).toNat).drop (bt260.2.1 : Int).toNat)).bind fun t265 => (some (bt260.1, t265, wrap64 (bt260.2.1 + (wrap64 (Int.tdiv bt260.1 8))), 0))) else (none)) else (none)) else (none))) else (some (0, ([] : List Int), 0, 12)))) else (some (0, ([] : List Int), 0, bt260.2.2)))) = some (r1, r2, r3, r4) := h
 clear h
 replace H := Option.bind_eq_some_iff.mp H
 obtain ⟨⟨t260, t261, t262⟩, A30, H⟩ := H
 replace H : (if t262 = 0 then ((bloom_size.f t260).bind fun t263 => (if t263 = true then (if (wrap64 ((l0.length : Int) - t261)) < (wrap64 (Int.tdiv t260 8)) then (some (0, ([] : List Int), 0, 10)) else (if 0 ≤ t261 then (if t261 ≤ (wrap64 (t261 + (wrap64 (Int.tdiv t260 8)))) then (if (wrap64 (t261 + (wrap64 (Int.tdiv t260 8)))) ≤ (l0.length : Int) then ((slices_Clone_byte_byte.f ((l0.take ((wrap64 (t261 + (wrap64 (Int.tdiv t260 8)))) : Int).toNat).drop (t261 : Int).toNat)).bind fun t265 => (some (t260, t265, wrap64 (t261 + (wrap64 (Int.tdiv t260 8))), 0))) else (none)) else (none)) else (none))) else (some (0, ([] : List Int), 0, 12)))) else (some (0, ([] : List Int), 0, t262))) = some (r1, r2, r3, r4) := H
 have A3 := Aside0.mk A30
 clear A30
 by_cases c4 : t262 = 0
 ·rw [if_pos c4] at H
  have c4b0 : (t262 == 0) = true := beq_iff_eq.mpr c4
  have c4b1 : (t262 != 0) = false := bne_eq_false_iff_eq.mpr c4
  clear c4
  replace H := Option.bind_eq_some_iff.mp H
  obtain ⟨t263, A50, H⟩ := H
  replace H : (if t263 = true then (if (wrap64 ((l0.length : Int) - t261)) < (wrap64 (Int.tdiv t260 8)) then (some (0, ([] : List Int), 0, 10)) else (if 0 ≤ t261 then (if t261 ≤ (wrap64 (t261 + (wrap64 (Int.tdiv t260 8)))) then (if (wrap64 (t261 + (wrap64 (Int.tdiv t260 8)))) ≤ (l0.length : Int) then ((slices_Clone_byte_byte.f ((l0.take ((wrap64 (t261 + (wrap64 (Int.tdiv t260 8)))) : Int).toNat).drop (t261 : Int).toNat)).bind fun t265 => (some (t260, t265, wrap64 (t261 + (wrap64 (Int.tdiv t260 8))), 0))) else (none)) else (none)) else (none))) else (some (0, ([] : List Int), 0, 12))) = some (r1, r2, r3, r4) := H
  have A5 := Aside0.mk A50
  clear A50
  by_cases c6 : t263 = true
  ·subst c6
   have H1 : (if (wrap64 ((l0.length : Int) - t261)) < (wrap64 (Int.tdiv t260 8)) then (some (0, ([] : List Int), 0, 10)) else (if 0 ≤ t261 then (if t261 ≤ (wrap64 (t261 + (wrap64 (Int.tdiv t260 8)))) then (if (wrap64 (t261 + (wrap64 (Int.tdiv t260 8)))) ≤ (l0.length : Int) then ((slices_Clone_byte_byte.f ((l0.take ((wrap64 (t261 + (wrap64 (Int.tdiv t260 8)))) : Int).toNat).drop (t261 : Int).toNat)).bind fun t265 => (some (t260, t265, wrap64 (t261 + (wrap64 (Int.tdiv t260 8))), 0))) else (none)) else (none)) else (none))) = some (r1, r2, r3, r4) := by rw [if_pos rfl] at H; exact H
   clear H
   have H := H1
   clear H1
   by_cases c7 : (wrap64 ((l0.length : Int) - t261)) < (wrap64 (Int.tdiv t260 8))
   ·rw [if_pos c7] at H
    have c7b0 : decide ((wrap64 ((l0.length : Int) - t261)) < (wrap64 (Int.tdiv t260 8))) = true := decide_eq_true c7
    clear c7
    simp only [Option.some.injEq, Prod.mk.injEq] at H
    obtain ⟨rfl, rfl, rfl, rfl⟩ := H
    go_enter Try.func21, Try.ntmps21
    go_wp2_with (first | ((with_reducible refine gate_dst (N := 4) rfl ?_); refine box_event ?hg (N := 4) ?hd (cs := #[.int .i64 0, .slice none 0 0]) (t := 26) ?hr ?_; (case hd => rfl); (case hg => rfl); (case hr => first | (go_simp; done) | (go_simp; rfl)); intro gb259 hg w8 hbox hb; have n0_ := Aside0.mk (below_step (mB HB.out) hb); have n1_ := Aside0.mk (hbox); have n2_ := Aside0.mk ((by rw [hg]; exact (below_size (mB HB.out)) : w.heap.size ≤ gb259)); have n3_ := n2_; clear HB; have HB := n0_; have BK259 := n1_; have GW259 := n2_; have GE259 := n3_; clear n0_ n1_ n2_ n3_; clear hb hbox hg) | ((with_reducible refine gate_callee (f := 34) rfl ?_); refine goesL_ (some 13) rfl rfl Try.func34 (by kernel_rfl) rfl #[.slice A0 l0.length c0, .int .i64 a1] rfl (by (try simp only [List.map_toArray, List.map_cons, List.map_nil]); first | done | rfl | (simp only [List.length_drop, List.length_take]; rfl)) ?_; (with_reducible refine (varint_Small.calls k _ _ l0 a1 t260 t261 t262 _ ?side1 ?side2 A3.out).mono ?_); (case side1 => repeat (first | exact (Kd.C_below HR0.out HB.out) | (with_reducible refine Kd.C_alloc ?_ _) | (with_reducible refine Kd.C_drewN ?_ _) | (with_reducible refine Kd.C_drew ?_))); (case side2 => first | exact HC0.out | exact Kd.V_mono HC0.out (fun k_ hk_ => by grind)); rintro e w9 ⟨rfl, hb⟩; refine ⟨_, rfl, ?_⟩; have n0_ := Aside0.mk (blk_below (mK BK259.out) hb); have n1_ := Aside0.mk (below_step mZ hb); clear BK259; clear HB; have BK259 := n0_; have HB := n1_; clear n0_ n1_; (try clear hb); (try clear hb2); (try clear hk); (try clear hi)) | ((with_reducible refine gate_callee (f := 29) rfl ?_); refine goesL_ (some 24) rfl rfl Try.func29 (by kernel_rfl) rfl #[.int .i64 t260] rfl (by (try simp only [List.map_toArray, List.map_cons, List.map_nil]); first | done | rfl | (simp only [List.length_drop, List.length_take]; rfl)) ?_; (with_reducible refine (bloom_size.calls t260 true _ A5.out).mono ?_); rintro e w' ⟨rfl, ⟨nd, rfl⟩⟩; refine ⟨_, rfl, ?_⟩; (try (rw [drewN_self w9]; generalize hq_ : World.drewN w9 _ = w9; have n0_ : Aside0 (w9.heap[gb259]? = some (.cells #[.int .i64 0, .slice none 0 0] 26 (0, 0))) := ⟨by rw [← hq_]; exact (mK BK259.out)⟩; have n1_ : Aside0 (Below w.heap.size w w9) := ⟨by rw [← hq_]; exact mZ⟩; clear BK259 HB hq_; have BK259 := n0_; have HB := n1_; clear n0_ n1_)); obtain ⟨hcz10_0, hcz10_1, hfz10_0, hfz10_1⟩ := cells_2 BK259.out))
    refine bodyPost_ret (results_ctt rfl _ _ gb259 26 #[.int .i64 0, .slice none 0 0] (0, 0) _ rfl (by (with_reducible repeat (first | refine blk_drewN ?_ _ | refine blk_drew ?_ | refine blk_alloc ?_ _)); apply puts_2; (with_reducible repeat (first | refine blk_drewN ?_ _ | refine blk_drew ?_ | refine blk_alloc ?_ _)); exact BK259.out) Try.underlying26 rfl (by kernel_rfl)) rfl ?_
    exact ⟨_, by first | rfl | (simp [errW_none, errW_some] <;> rfl) | (simp [*, errW_none, errW_some] <;> rfl), by first | exact Kd.R_nil _ _ _ _ _ | exact Kd.N_nil _ _ _ _ _ | exact Kd.V_nil _ _ _ _ _ | exact Kd.Q_nil _ _ _ _ _ | exact Kd.S_nil _ _ _ _ _, mZ⟩
   ·rw [if_neg c7] at H
    have c7b0 : decide ((wrap64 ((l0.length : Int) - t261)) < (wrap64 (Int.tdiv t260 8))) = false := decide_eq_false c7
    clear c7
    by_cases c11 : 0 ≤ t261
    ·rw [if_pos c11] at H
     have c11b0 := eq_true c11
     have c11b1 : decide (0 ≤ t261) = true := decide_eq_true c11
     clear c11
     by_cases c12 : t261 ≤ (wrap64 (t261 + (wrap64 (Int.tdiv t260 8))))
     ·rw [if_pos c12] at H
      have c12b0 := eq_true c12
      have c12b1 : decide (t261 ≤ (wrap64 (t261 + (wrap64 (Int.tdiv t260 8))))) = true := decide_eq_true c12
      by_cases c13 : (wrap64 (t261 + (wrap64 (Int.tdiv t260 8)))) ≤ (l0.length : Int)
      ·rw [if_pos c13] at H
       have c13b0 := eq_true c13
       have c13b1 : decide ((wrap64 (t261 + (wrap64 (Int.tdiv t260 8)))) ≤ (l0.length : Int)) = true := decide_eq_true c13
       replace H := Option.bind_eq_some_iff.mp H
       obtain ⟨t265, A140, H⟩ := H
       replace H : (some (t260, t265, wrap64 (t261 + (wrap64 (Int.tdiv t260 8))), 0)) = some (r1, r2, r3, r4) := H
       have A14 := Aside0.mk A140
       clear A140
       simp only [Option.some.injEq, Prod.mk.injEq] at H
       obtain ⟨rfl, rfl, rfl, rfl⟩ := H
       go_enter Try.func21, Try.ntmps21
       go_wp2_with (first | ((with_reducible refine gate_dst (N := 4) rfl ?_); refine box_event ?hg (N := 4) ?hd (cs := #[.int .i64 0, .slice none 0 0]) (t := 26) ?hr ?_; (case hd => rfl); (case hg => rfl); (case hr => first | (go_simp; done) | (go_simp; rfl)); intro gb259 hg w15 hbox hb; have n0_ := Aside0.mk (below_step (mB HB.out) hb); have n1_ := Aside0.mk (hbox); have n2_ := Aside0.mk ((by rw [hg]; exact (below_size (mB HB.out)) : w.heap.size ≤ gb259)); have n3_ := n2_; clear HB; have HB := n0_; have BK259 := n1_; have GW259 := n2_; have GE259 := n3_; clear n0_ n1_ n2_ n3_; clear hb hbox hg) | ((with_reducible refine gate_callee (f := 34) rfl ?_); refine goesL_ (some 13) rfl rfl Try.func34 (by kernel_rfl) rfl #[.slice A0 l0.length c0, .int .i64 a1] rfl (by (try simp only [List.map_toArray, List.map_cons, List.map_nil]); first | done | rfl | (simp only [List.length_drop, List.length_take]; rfl)) ?_; (with_reducible refine (varint_Small.calls k _ _ l0 a1 t260 t261 t262 _ ?side1 ?side2 A3.out).mono ?_); (case side1 => repeat (first | exact (Kd.C_below HR0.out HB.out) | (with_reducible refine Kd.C_alloc ?_ _) | (with_reducible refine Kd.C_drewN ?_ _) | (with_reducible refine Kd.C_drew ?_))); (case side2 => first | exact HC0.out | exact Kd.V_mono HC0.out (fun k_ hk_ => by grind)); rintro e w16 ⟨rfl, hb⟩; refine ⟨_, rfl, ?_⟩; have n0_ := Aside0.mk (blk_below (mK BK259.out) hb); have n1_ := Aside0.mk (below_step mZ hb); clear BK259; clear HB; have BK259 := n0_; have HB := n1_; clear n0_ n1_; (try clear hb); (try clear hb2); (try clear hk); (try clear hi)) | ((with_reducible refine gate_callee (f := 29) rfl ?_); refine goesL_ (some 24) rfl rfl Try.func29 (by kernel_rfl) rfl #[.int .i64 t260] rfl (by (try simp only [List.map_toArray, List.map_cons, List.map_nil]); first | done | rfl | (simp only [List.length_drop, List.length_take]; rfl)) ?_; (with_reducible refine (bloom_size.calls t260 true _ A5.out).mono ?_); rintro e w' ⟨rfl, ⟨nd, rfl⟩⟩; refine ⟨_, rfl, ?_⟩; (try (rw [drewN_self w16]; generalize hq_ : World.drewN w16 _ = w16; have n0_ : Aside0 (w16.heap[gb259]? = some (.cells #[.int .i64 0, .slice none 0 0] 26 (0, 0))) := ⟨by rw [← hq_]; exact (mK BK259.out)⟩; have n1_ : Aside0 (Below w.heap.size w w16) := ⟨by rw [← hq_]; exact mZ⟩; clear BK259 HB hq_; have BK259 := n0_; have HB := n1_; clear n0_ n1_)); obtain ⟨i017, hi017, _, hsz17, _⟩ := info_parts info5; obtain ⟨A17, hcut17, hA17, hC17⟩ := print_mid_of (P := Try.prog) (Value.int .u8) 0 24 5 .i64 .i64 Try.underlying24 hi017 hsz17 A0 c0 l0 t261 (wrap64 (t261 + (wrap64 (Int.tdiv t260 8)))) (of_decide_eq_true (by first | (with_reducible assumption) | assumption)) (by first | omega | exact of_decide_eq_true (by first | (with_reducible assumption) | assumption)) (of_decide_eq_true (by first | (with_reducible assumption) | assumption)) HC0.out; have HR264 := Aside0.mk (Kd.C_of_reads (h1 := fun _ => rfl) (hA17 _ (Kd.reads_of_C HR0.out))); have HC264 := Aside0.mk hC17; clear hA17 hC17 hi017 hsz17) | ((with_reducible refine gate_callee (f := 35) rfl ?_); refine goesL_ (some 44) rfl rfl Try.func35 (by kernel_rfl) rfl #[.slice A17 ((l0.take ((wrap64 (t261 + (wrap64 (Int.tdiv t260 8)))) : Int).toNat).drop (t261 : Int).toNat).length (c0 - t261.toNat)] rfl (by (try simp only [List.map_toArray, List.map_cons, List.map_nil]); first | done | (rw [show ((l0.take ((wrap64 (t261 + (wrap64 (Int.tdiv t260 8)))) : Int).toNat).drop (t261 : Int).toNat).length = ((wrap64 (t261 + (wrap64 (Int.tdiv t260 8)))).toNat - t261.toNat) from (by rw [List.length_drop, List.length_take]; have h_ : ((wrap64 (t261 + (wrap64 (Int.tdiv t260 8)))) : Int) ≤ (l0.length : Int) := of_decide_eq_true (by first | (with_reducible assumption) | assumption); omega)] <;> rfl) | rfl | (simp only [List.length_drop, List.length_take]; rfl)) ?_; (with_reducible refine (slices_Clone_byte_byte.calls _ _ ((l0.take ((wrap64 (t261 + (wrap64 (Int.tdiv t260 8)))) : Int).toNat).drop (t261 : Int).toNat) t265 _ ?side1 ?side2 A14.out).mono ?_); (case side1 => repeat (first | exact (Kd.C_below HR264.out HB.out) | (with_reducible refine Kd.C_alloc ?_ _) | (with_reducible refine Kd.C_drewN ?_ _) | (with_reducible refine Kd.C_drew ?_))); (case side2 => first | exact HC264.out | exact Kd.V_mono HC264.out (fun k_ hk_ => by grind)); rintro e w18 ⟨v266, rfl, ho0, hb⟩; refine ⟨_, rfl, ?_⟩; have n0_ := Aside0.mk (Kd.R_lower ho0 (below_size mZ)); have n1_ := Aside0.mk (blk_below (mK BK259.out) hb); have n2_ := Aside0.mk (below_step mZ hb); clear BK259; clear HB; have HO267 := n0_; have BK259 := n1_; have HB := n2_; clear n0_ n1_ n2_; (try clear hb); (try clear hb2); (try clear hk); (try clear hi); (try clear ho0); obtain ⟨Ao19, co19, eo19⟩ := Kd.R_slice HO267.out; subst eo19; obtain ⟨hcz20_0, hcz20_1, hfz20_0, hfz20_1⟩ := cells_2 BK259.out))
       refine bodyPost_ret (results_ctt rfl _ _ gb259 26 #[.int .i64 t260, .slice Ao19 t265.length co19] (0, 0) _ rfl (by (with_reducible repeat (first | refine blk_drewN ?_ _ | refine blk_drew ?_ | refine blk_alloc ?_ _)); apply puts_2; (with_reducible repeat (first | refine blk_drewN ?_ _ | refine blk_drew ?_ | refine blk_alloc ?_ _)); exact BK259.out) Try.underlying26 rfl (by kernel_rfl)) rfl ?_
       exact ⟨_, by first | rfl | (simp [errW_none, errW_some] <;> rfl) | (simp [*, errW_none, errW_some] <;> rfl), by (with_reducible repeat (first | apply Kd.R_alloc | apply Kd.R_drewN | apply Kd.R_drew)); exact Kd.R_mono (Kd.R_far (p := ⟨gb259, 1, none⟩) (Kd.R_far (p := ⟨gb259, 0, none⟩) (Kd.R_types HO267.out BK259.out (by decide)) (fun _ hk => hk.2) (.int .i64 t260)) (fun _ hk => hk.2) (.slice Ao19 t265.length co19)) (fun _ hk => trivial), mZ⟩
      ·rw [if_neg c13] at H
       exact absurd H (by simp)
     ·rw [if_neg c12] at H
      exact absurd H (by simp)
    ·rw [if_neg c11] at H
     exact absurd H (by simp)
  ·replace c6 := Bool.eq_false_iff.mpr c6
   subst c6
   have H1 : (some (0, ([] : List Int), 0, 12)) = some (r1, r2, r3, r4) := by rw [if_neg (show ¬ (false = true) by decide)] at H; exact H
   clear H
   have H := H1
   clear H1
   simp only [Option.some.injEq, Prod.mk.injEq] at H
   obtain ⟨rfl, rfl, rfl, rfl⟩ := H
   go_enter Try.func21, Try.ntmps21
   go_wp2_with (first | ((with_reducible refine gate_dst (N := 4) rfl ?_); refine box_event ?hg (N := 4) ?hd (cs := #[.int .i64 0, .slice none 0 0]) (t := 26) ?hr ?_; (case hd => rfl); (case hg => rfl); (case hr => first | (go_simp; done) | (go_simp; rfl)); intro gb259 hg w21 hbox hb; have n0_ := Aside0.mk (below_step (mB HB.out) hb); have n1_ := Aside0.mk (hbox); have n2_ := Aside0.mk ((by rw [hg]; exact (below_size (mB HB.out)) : w.heap.size ≤ gb259)); have n3_ := n2_; clear HB; have HB := n0_; have BK259 := n1_; have GW259 := n2_; have GE259 := n3_; clear n0_ n1_ n2_ n3_; clear hb hbox hg) | ((with_reducible refine gate_callee (f := 34) rfl ?_); refine goesL_ (some 13) rfl rfl Try.func34 (by kernel_rfl) rfl #[.slice A0 l0.length c0, .int .i64 a1] rfl (by (try simp only [List.map_toArray, List.map_cons, List.map_nil]); first | done | rfl | (simp only [List.length_drop, List.length_take]; rfl)) ?_; (with_reducible refine (varint_Small.calls k _ _ l0 a1 t260 t261 t262 _ ?side1 ?side2 A3.out).mono ?_); (case side1 => repeat (first | exact (Kd.C_below HR0.out HB.out) | (with_reducible refine Kd.C_alloc ?_ _) | (with_reducible refine Kd.C_drewN ?_ _) | (with_reducible refine Kd.C_drew ?_))); (case side2 => first | exact HC0.out | exact Kd.V_mono HC0.out (fun k_ hk_ => by grind)); rintro e w22 ⟨rfl, hb⟩; refine ⟨_, rfl, ?_⟩; have n0_ := Aside0.mk (blk_below (mK BK259.out) hb); have n1_ := Aside0.mk (below_step mZ hb); clear BK259; clear HB; have BK259 := n0_; have HB := n1_; clear n0_ n1_; (try clear hb); (try clear hb2); (try clear hk); (try clear hi)) | ((with_reducible refine gate_callee (f := 29) rfl ?_); refine goesL_ (some 24) rfl rfl Try.func29 (by kernel_rfl) rfl #[.int .i64 t260] rfl (by (try simp only [List.map_toArray, List.map_cons, List.map_nil]); first | done | rfl | (simp only [List.length_drop, List.length_take]; rfl)) ?_; (with_reducible refine (bloom_size.calls t260 false _ A5.out).mono ?_); rintro e w' ⟨rfl, ⟨nd, rfl⟩⟩; refine ⟨_, rfl, ?_⟩; (try (rw [drewN_self w22]; generalize hq_ : World.drewN w22 _ = w22; have n0_ : Aside0 (w22.heap[gb259]? = some (.cells #[.int .i64 0, .slice none 0 0] 26 (0, 0))) := ⟨by rw [← hq_]; exact (mK BK259.out)⟩; have n1_ : Aside0 (Below w.heap.size w w22) := ⟨by rw [← hq_]; exact mZ⟩; clear BK259 HB hq_; have BK259 := n0_; have HB := n1_; clear n0_ n1_)); obtain ⟨hcz23_0, hcz23_1, hfz23_0, hfz23_1⟩ := cells_2 BK259.out))
   refine bodyPost_ret (results_ctt rfl _ _ gb259 26 #[.int .i64 0, .slice none 0 0] (0, 0) _ rfl (by (with_reducible repeat (first | refine blk_drewN ?_ _ | refine blk_drew ?_ | refine blk_alloc ?_ _)); apply puts_2; (with_reducible repeat (first | refine blk_drewN ?_ _ | refine blk_drew ?_ | refine blk_alloc ?_ _)); exact BK259.out) Try.underlying26 rfl (by kernel_rfl)) rfl ?_
   exact ⟨_, by first | rfl | (simp [errW_none, errW_some] <;> rfl) | (simp [*, errW_none, errW_some] <;> rfl), by first | exact Kd.R_nil _ _ _ _ _ | exact Kd.N_nil _ _ _ _ _ | exact Kd.V_nil _ _ _ _ _ | exact Kd.Q_nil _ _ _ _ _ | exact Kd.S_nil _ _ _ _ _, mZ⟩
 ·rw [if_neg c4] at H
  have c4b0 : (t262 == 0) = false := beq_eq_false_iff_ne.mpr c4
  have c4b1 : (t262 != 0) = true := bne_iff_ne.mpr c4
  simp only [Option.some.injEq, Prod.mk.injEq] at H
  obtain ⟨rfl, rfl, rfl, rfl⟩ := H
  go_enter Try.func21, Try.ntmps21
  go_wp2_with (first | ((with_reducible refine gate_dst (N := 4) rfl ?_); refine box_event ?hg (N := 4) ?hd (cs := #[.int .i64 0, .slice none 0 0]) (t := 26) ?hr ?_; (case hd => rfl); (case hg => rfl); (case hr => first | (go_simp; done) | (go_simp; rfl)); intro gb259 hg w24 hbox hb; have n0_ := Aside0.mk (below_step (mB HB.out) hb); have n1_ := Aside0.mk (hbox); have n2_ := Aside0.mk ((by rw [hg]; exact (below_size (mB HB.out)) : w.heap.size ≤ gb259)); have n3_ := n2_; clear HB; have HB := n0_; have BK259 := n1_; have GW259 := n2_; have GE259 := n3_; clear n0_ n1_ n2_ n3_; clear hb hbox hg) | ((with_reducible refine gate_callee (f := 34) rfl ?_); refine goesL_ (some 13) rfl rfl Try.func34 (by kernel_rfl) rfl #[.slice A0 l0.length c0, .int .i64 a1] rfl (by (try simp only [List.map_toArray, List.map_cons, List.map_nil]); first | done | rfl | (simp only [List.length_drop, List.length_take]; rfl)) ?_; (with_reducible refine (varint_Small.calls k _ _ l0 a1 t260 t261 t262 _ ?side1 ?side2 A3.out).mono ?_); (case side1 => repeat (first | exact (Kd.C_below HR0.out HB.out) | (with_reducible refine Kd.C_alloc ?_ _) | (with_reducible refine Kd.C_drewN ?_ _) | (with_reducible refine Kd.C_drew ?_))); (case side2 => first | exact HC0.out | exact Kd.V_mono HC0.out (fun k_ hk_ => by grind)); rintro e w25 ⟨rfl, hb⟩; refine ⟨_, rfl, ?_⟩; have n0_ := Aside0.mk (blk_below (mK BK259.out) hb); have n1_ := Aside0.mk (below_step mZ hb); clear BK259; clear HB; have BK259 := n0_; have HB := n1_; clear n0_ n1_; (try clear hb); (try clear hb2); (try clear hk); (try clear hi); obtain ⟨hcz26_0, hcz26_1, hfz26_0, hfz26_1⟩ := cells_2 BK259.out))
  refine bodyPost_ret (results_ctt rfl _ _ gb259 26 #[.int .i64 0, .slice none 0 0] (0, 0) _ rfl (by (with_reducible repeat (first | refine blk_drewN ?_ _ | refine blk_drew ?_ | refine blk_alloc ?_ _)); apply puts_2; (with_reducible repeat (first | refine blk_drewN ?_ _ | refine blk_drew ?_ | refine blk_alloc ?_ _)); exact BK259.out) Try.underlying26 rfl (by kernel_rfl)) rfl ?_
  exact ⟨_, by first | rfl | (simp [errW_none, errW_some] <;> rfl) | (simp [*, errW_none, errW_some] <;> rfl), by first | exact Kd.R_nil _ _ _ _ _ | exact Kd.N_nil _ _ _ _ _ | exact Kd.V_nil _ _ _ _ _ | exact Kd.Q_nil _ _ _ _ _ | exact Kd.S_nil _ _ _ _ _, mZ⟩

end Go.Proofs.Ytifcocmmapgebaa.QBloomTells
