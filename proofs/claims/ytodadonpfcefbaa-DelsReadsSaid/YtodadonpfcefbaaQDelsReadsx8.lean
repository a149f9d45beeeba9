-- Written by a program of this session (wip/myprint.py): the machine's side of a law
import Derived.Test.YtodadonpfcefbaaQDelsReadsx0
namespace Go.Proofs.Ytodadonpfcefbaa.QDelsReads
open Go.RowKit Go.Proofs.YtodadonpfcefbaaW.PrintWords Go.Proofs.YtodadonpfcefbaaW.PrintLast Go.Proofs.YtodadonpfcefbaaW.PrintMore
attribute [local go_sem] max2_int min2_int max_two min_two max_three min_three max_four min_four   -- for this text's walks alone
set_option linter.unusedVariables false
set_option linter.unusedSimpArgs false

/-! ### bits_Size: function 47 -/
def bits_Size.f (a0 : Int) (a1 : Int) : Option (Int) := if a0 < 0 then (some 0) else (if a0 > 16777216 then (some 0) else (if a1 < 0 then (some 0) else (if a1 > 64 then (some 0) else (some (wrap64 (Int.tdiv (wrap64 ((wrap64 (a0 * a1)) + 7)) 8))))))
set_option maxHeartbeats 8000000 in
set_option maxRecDepth 100000 in
theorem bits_Size.calls (a0 : Int) (a1 : Int) (r : Int) (w : World) (h : bits_Size.f a0 a1 = some r) :
    Calls Try.prog 47 #[.int .i64 a0, .int .i64 a1] w fun e w' => e = .returned (.int .i64 r) ∧ Drawn0 w w' := by
  have H : (if a0 < 0 then (some 0) else (if a0 > 16777216 then (some 0) else (if a1 < 0 then (some 0) else (if a1 > 64 then (some 0) else (some (wrap64 (Int.tdiv (wrap64 ((wrap64 (a0 * a1)) + 7)) 8))))))) = some r := h
  clear h
  by_cases c3 : a0 < 0
  · rw [if_pos c3] at H
    have c3b0 : decide (a0 < 0) = true := decide_eq_true c3
    clear c3
    obtain rfl := Option.some.inj H
    go_enter Try.func47, Try.ntmps47
    go_wp2
    go_ret
    exact ⟨by first | rfl | (simp; done) | (simp [*]; done), by repeat (first | exact Drawn0.refl _ | apply Drawn0.step)⟩
  · rw [if_neg c3] at H
    have c3b0 : decide (a0 < 0) = false := decide_eq_false c3
    clear c3
    by_cases c4 : a0 > 16777216
    · rw [if_pos c4] at H
      have c4b0 : decide (16777216 < a0) = true := decide_eq_true c4
      clear c4
      obtain rfl := Option.some.inj H
      go_enter Try.func47, Try.ntmps47
      go_wp2
      go_ret
      exact ⟨by first | rfl | (simp; done) | (simp [*]; done), by repeat (first | exact Drawn0.refl _ | apply Drawn0.step)⟩
    · rw [if_neg c4] at H
      have c4b0 : decide (16777216 < a0) = false := decide_eq_false c4
      clear c4
      by_cases c5 : a1 < 0
      · rw [if_pos c5] at H
        have c5b0 : decide (a1 < 0) = true := decide_eq_true c5
        clear c5
        obtain rfl := Option.some.inj H
        go_enter Try.func47, Try.ntmps47
        go_wp2
        go_ret
        exact ⟨by first | rfl | (simp; done) | (simp [*]; done), by repeat (first | exact Drawn0.refl _ | apply Drawn0.step)⟩
      · rw [if_neg c5] at H
        have c5b0 : decide (a1 < 0) = false := decide_eq_false c5
        clear c5
        by_cases c6 : a1 > 64
        · rw [if_pos c6] at H
          have c6b0 : decide (64 < a1) = true := decide_eq_true c6
          clear c6
          obtain rfl := Option.some.inj H
          go_enter Try.func47, Try.ntmps47
          go_wp2
          go_ret
          exact ⟨by first | rfl | (simp; done) | (simp [*]; done), by repeat (first | exact Drawn0.refl _ | apply Drawn0.step)⟩
        · rw [if_neg c6] at H
          have c6b0 : decide (64 < a1) = false := decide_eq_false c6
          clear c6
          obtain rfl := Option.some.inj H
          go_enter Try.func47, Try.ntmps47
          go_wp2
          go_ret
          exact ⟨by first | rfl | (simp; done) | (simp [*]; done), by repeat (first | exact Drawn0.refl _ | apply Drawn0.step)⟩

/-! ### bits_Unpack: function 45 -/
/-! ### bits.Unpack, whose captured bytes lie in a variable in memory: by hand -/
/-- The closure: a bit of the bytes. -/
def bits_Unpack_1.f (l0 : List Int) (a : Int) : Option Int :=
  if 0 ≤ (wrap64 (Int.tdiv a 8)) then (if (wrap64 (Int.tdiv a 8)) < (l0.length : Int) then (if 0 ≤ (Int.tmod a 8) then (some (Go.bits .and .u64 (IntKind.u64.wrap (shr .u8 (rd l0 (wrap64 (Int.tdiv a 8))) (Int.tmod a 8))) 1)) else (none)) else (none)) else (none)
mutual
def bits_Unpack.l0 : Nat → List Int → Int → Int → Int → Option (List Int × Int)
  | 0, _, _, _, _ => none
  | k + 1, x0, x1, x2, x9 => if x9 < (wrap64 (8 * (x0.length : Int))) then ((bits_Unpack_1.f x0 x9).bind fun t => (if t > 0 then (some (([] : List Int), 12)) else (bits_Unpack.l0 k x0 x1 x2 (wrap64 (x9 + 1))))) else (if 0 ≤ x1 then (if (x1 : Int).toNat ≤ 35184372088832 then (bits_Unpack.l1 k x0 x2 (List.replicate (x1 : Int).toNat 0) ((List.replicate (x1 : Int).toNat (0 : Int)).length : Int) 0) else (none)) else (none))
def bits_Unpack.l1 : Nat → List Int → Int → List Int → Int → Int → Option (List Int × Int)
  | 0, _, _, _, _, _ => none
  | k + 1, x0, x2, x10, x59, x60 => if x60 < x59 then (bits_Unpack.l2 k x0 x2 x10 x59 x60 0) else (some (x10, 0))
def bits_Unpack.l2 : Nat → List Int → Int → List Int → Int → Int → Int → Option (List Int × Int)
  | 0, _, _, _, _, _, _ => none
  | k + 1, x0, x2, x10, x59, x60, x64 => if x64 < x2 then (if 0 ≤ x60 then (if x60 < (x10.length : Int) then (if 0 ≤ x64 then ((bits_Unpack_1.f x0 (wrap64 ((wrap64 (x60 * x2)) + x64))).bind fun t => (bits_Unpack.l2 k x0 x2 (x10.set (x60 : Int).toNat (Go.bits .or .u64 (rd x10 x60) (shl .u64 t x64))) x59 x60 (wrap64 (x64 + 1)))) else (none)) else (none)) else (none)) else (bits_Unpack.l1 k x0 x2 x10 x59 (wrap64 (x60 + 1)))
end
def bits_Unpack.f (k : Nat) (l0 : List Int) (a1 : Int) (a2 : Int) : Option (List Int × Int) :=
  if a2 < 0 then (some (([] : List Int), 15)) else (if a2 > 64 then (some (([] : List Int), 15)) else (if a1 < 0 then (some (([] : List Int), 1)) else (if a1 > 16777216 then (some (([] : List Int), 1)) else ((bits_Size.f a1 a2).bind fun t => (if (l0.length : Int) < t then (some (([] : List Int), 10)) else (if (l0.length : Int) > t then (some (([] : List Int), 11)) else (bits_Unpack.l0 k l0 a1 a2 (wrap64 (a1 * a2)))))))))
theorem bits_Unpack.mono_l : ∀ k, (∀ y0 y1 y2 y3, LeO (bits_Unpack.l0 k y0 y1 y2 y3) (bits_Unpack.l0 (k + 1) y0 y1 y2 y3)) ∧ (∀ y0 y1 y2 y3 y4, LeO (bits_Unpack.l1 k y0 y1 y2 y3 y4) (bits_Unpack.l1 (k + 1) y0 y1 y2 y3 y4)) ∧ (∀ y0 y1 y2 y3 y4 y5, LeO (bits_Unpack.l2 k y0 y1 y2 y3 y4 y5) (bits_Unpack.l2 (k + 1) y0 y1 y2 y3 y4 y5))
  | 0 => ⟨fun _ _ _ _ r h => by simp [bits_Unpack.l0] at h, fun _ _ _ _ _ r h => by simp [bits_Unpack.l1] at h, fun _ _ _ _ _ _ r h => by simp [bits_Unpack.l2] at h⟩
  | k + 1 => by
    obtain ⟨ih0, ih1, ih2⟩ := bits_Unpack.mono_l k
    refine ⟨?_, ?_, ?_⟩
    · intro y0 y1 y2 y3
      unfold bits_Unpack.l0
      repeat' first
      | exact ih0 _ _ _ _
      | exact ih1 _ _ _ _ _
      | (with_reducible exact LeO.refl _)
      | exact LeO.none _
      | refine LeO.ite ?_ ?_
      | refine LeO.bind ?_ (fun _ => ?_)
    · intro y0 y1 y2 y3 y4
      unfold bits_Unpack.l1
      repeat' first
      | exact ih2 _ _ _ _ _ _
      | (with_reducible exact LeO.refl _)
      | exact LeO.none _
      | refine LeO.ite ?_ ?_
      | refine LeO.bind ?_ (fun _ => ?_)
    · intro y0 y1 y2 y3 y4 y5
      unfold bits_Unpack.l2
      repeat' first
      | exact ih1 _ _ _ _ _
      | exact ih2 _ _ _ _ _ _
      | (with_reducible exact LeO.refl _)
      | exact LeO.none _
      | refine LeO.ite ?_ ?_
      | refine LeO.bind ?_ (fun _ => ?_)
theorem bits_Unpack.mono : ∀ a0 a1 a2 k, LeO (bits_Unpack.f k a0 a1 a2) (bits_Unpack.f (k + 1) a0 a1 a2) := by
  intro a0 a1 a2 k
  obtain ⟨ih0, ih1, ih2⟩ := bits_Unpack.mono_l k
  unfold bits_Unpack.f
  repeat' first
      | exact ih0 _ _ _ _
      | (with_reducible exact LeO.refl _)
      | exact LeO.none _
      | refine LeO.ite ?_ ?_
      | refine LeO.bind ?_ (fun _ => ?_)
set_option maxHeartbeats 8000000 in
set_option maxRecDepth 100000 in
theorem bits_Unpack_1.calls (A0 : Option Addr) (c0 : Nat) (l0 : List Int) (a : Int) (r : Int) (g : Nat) (w : World) (hr0 : Kd.C (Kd.int .u8) w A0 l0.length l0) (hc0 : l0.length ≤ c0) (hv : w.cell? ⟨g, 0, none⟩ = some (.slice A0 l0.length c0)) (h : bits_Unpack_1.f l0 a = some r) :
    Calls Try.prog 48 #[.int .i64 a, .pointer (some ⟨g, 0, none⟩)] w fun e w' => e = .returned (.int .u64 r) ∧ w = w' := by
  have HR0 := Aside0.mk hr0
  have HC0 := Aside0.mk hc0
  clear hr0 hc0
  have H := h
  clear h
  unfold bits_Unpack_1.f at H
  obtain ⟨ji7, hji7⟩ : ∃ j_ : Int, (wrap64 (Int.tdiv a 8)) = j_ := ⟨_, rfl⟩
  rw [hji7] at H
  by_cases c1 : 0 ≤ ji7
  · rw [if_pos c1] at H
    by_cases c2 : ji7 < (l0.length : Int)
    · rw [if_pos c2] at H
      by_cases c3 : 0 ≤ Int.tmod a 8
      · rw [if_pos c3] at H
        obtain ⟨ji8, hji8⟩ : ∃ j_ : Int, Int.tmod a 8 = j_ := ⟨_, rfl⟩
        rw [hji8] at H c3
        obtain ⟨ad, e1, hx⟩ := Kd.at_int HR0.out ji7 c1 c2
        cases e1
        obtain ⟨ji9, hji9⟩ : ∃ j_ : Int, shr .u8 (rd l0 ji7) ji8 = j_ := ⟨_, rfl⟩
        rw [hji9] at H
        have hji9_ : (rd l0 ji7) / 2 ^ min ji8.toNat 8 = ji9 := hji9
        obtain rfl := Option.some.inj H
        clear H
        have c1b : decide (0 ≤ ji7) = true := decide_eq_true c1
        have c2b : decide (ji7 < (l0.length : Int)) = true := decide_eq_true c2
        have c3b : decide (0 ≤ ji8) = true := decide_eq_true c3
        replace c1 := eq_true c1
        replace c2 := eq_true c2
        replace c3 := eq_true c3
        clear hji9
        go_enter Try.func48, Try.ntmps48
        go_wp2
        go_ret
        exact ⟨rfl, rfl⟩
      · rw [if_neg c3] at H
        exact absurd H (by simp)
    · rw [if_neg c2] at H
      exact absurd H (by simp)
  · rw [if_neg c1] at H
    exact absurd H (by simp)
set_option maxHeartbeats 8000000 in
set_option maxRecDepth 100000 in
theorem bits_Unpack.calls (k : Nat) (A0 : Option Addr) (c0 : Nat) (l0 : List Int) (a1 : Int) (a2 : Int) (r1 : List Int) (r2 : Int) (w : World) (hr0 : Kd.C (Kd.int .u8) w A0 l0.length l0) (hc0 : l0.length ≤ c0) (h : bits_Unpack.f k l0 a1 a2 = some (r1, r2)) :
    Calls Try.prog 45 #[.slice A0 l0.length c0, .int .i64 a1, .int .i64 a2] w fun e w' => ∃ v0_ : Value, e = .returned (.tuple #[v0_, .int .i64 r2]) ∧ Kd.R (Kd.int .u64) 53 w' w.heap.size (fun _ => True) v0_ r1 ∧ Below w.heap.size w w' := by
  have HR0 := Aside0.mk (Kd.C_alloc hr0 (.cells #[.slice A0 l0.length c0] 38))
  have HC0 := Aside0.mk hc0
  have HB1 := Aside0.mk (below_alloc (Below.refl w.heap.size w) (.cells #[.slice A0 l0.length c0] 38))
  have hv1 : (w.alloc (.cells #[.slice A0 l0.length c0] 38)).cell? ⟨w.heap.size, 0, none⟩ = some (.slice A0 l0.length c0) := cell_of_one (blk_new w _)
  have hmf : ∀ (fn : Fn) (first cap : Array Value) (w : World), (Instr.makeFunc fn first cap).run Try.prog w = .ok (.func fn first cap) w := fun _ _ _ _ => rfl
  clear hr0 hc0
  have H := h
  clear h
  unfold bits_Unpack.f at H
  by_cases c1 : a2 < 0
  · rw [if_pos c1] at H
    simp only [Option.some.injEq, Prod.mk.injEq] at H
    obtain ⟨rfl, rfl⟩ := H
    have c1b : decide (a2 < 0) = true := decide_eq_true c1
    clear c1
    go_enter Try.func45, Try.ntmps45
    go_wp2
    go_ret2
    exact ⟨_, rfl, Kd.R_nil _ _ _ _ _, HB1.out⟩
  rw [if_neg c1] at H
  have c1b : decide (a2 < 0) = false := decide_eq_false c1
  clear c1
  by_cases c2 : a2 > 64
  · rw [if_pos c2] at H
    simp only [Option.some.injEq, Prod.mk.injEq] at H
    obtain ⟨rfl, rfl⟩ := H
    have c2b : decide (64 < a2) = true := decide_eq_true c2
    clear c2
    go_enter Try.func45, Try.ntmps45
    go_wp2
    go_ret2
    exact ⟨_, rfl, Kd.R_nil _ _ _ _ _, HB1.out⟩
  rw [if_neg c2] at H
  have c2b : decide (64 < a2) = false := decide_eq_false c2
  clear c2
  by_cases c3 : a1 < 0
  · rw [if_pos c3] at H
    simp only [Option.some.injEq, Prod.mk.injEq] at H
    obtain ⟨rfl, rfl⟩ := H
    have c3b : decide (a1 < 0) = true := decide_eq_true c3
    clear c3
    go_enter Try.func45, Try.ntmps45
    go_wp2
    go_ret2
    exact ⟨_, rfl, Kd.R_nil _ _ _ _ _, HB1.out⟩
  rw [if_neg c3] at H
  have c3b : decide (a1 < 0) = false := decide_eq_false c3
  clear c3
  by_cases c4 : a1 > 16777216
  · rw [if_pos c4] at H
    simp only [Option.some.injEq, Prod.mk.injEq] at H
    obtain ⟨rfl, rfl⟩ := H
    have c4b : decide (16777216 < a1) = true := decide_eq_true c4
    clear c4
    go_enter Try.func45, Try.ntmps45
    go_wp2
    go_ret2
    exact ⟨_, rfl, Kd.R_nil _ _ _ _ _, HB1.out⟩
  rw [if_neg c4] at H
  have c4b : decide (16777216 < a1) = false := decide_eq_false c4
  clear c4
  obtain ⟨t5, A5, H⟩ := Option.bind_eq_some_iff.mp H
  replace A5 := Aside0.mk A5
  by_cases c6 : (l0.length : Int) < t5
  · rw [if_pos c6] at H
    simp only [Option.some.injEq, Prod.mk.injEq] at H
    obtain ⟨rfl, rfl⟩ := H
    have c6b : decide ((l0.length : Int) < t5) = true := decide_eq_true c6
    clear c6
    go_enter Try.func45, Try.ntmps45
    go_wp2
    go_quiet ((go_at_call 47; refine (bits_Size.calls a1 a2 t5 _ A5.out).mono ?_; rintro e w' ⟨rfl, ⟨nd, rfl⟩⟩; exact ⟨rfl, _, World.drewN_drewN ..⟩))
    go_wp2
    go_ret2
    exact ⟨_, rfl, Kd.R_nil _ _ _ _ _, pw_below_drewN HB1.out _⟩
  rw [if_neg c6] at H
  have c6b : decide ((l0.length : Int) < t5) = false := decide_eq_false c6
  clear c6
  by_cases c7 : (l0.length : Int) > t5
  · rw [if_pos c7] at H
    simp only [Option.some.injEq, Prod.mk.injEq] at H
    obtain ⟨rfl, rfl⟩ := H
    have c7b : decide (t5 < (l0.length : Int)) = true := decide_eq_true c7
    clear c7
    go_enter Try.func45, Try.ntmps45
    go_wp2
    go_quiet ((go_at_call 47; refine (bits_Size.calls a1 a2 t5 _ A5.out).mono ?_; rintro e w' ⟨rfl, ⟨nd, rfl⟩⟩; exact ⟨rfl, _, World.drewN_drewN ..⟩))
    have hv2 : ((w.alloc (.cells #[.slice A0 l0.length c0] 38)).drewN nq).cell? ⟨w.heap.size, 0, none⟩ = some (.slice A0 l0.length c0) := hv1
    have HR2 := Aside0.mk (Kd.C_drewN HR0.out nq)
    have HB2 := Aside0.mk (pw_below_drewN HB1.out nq)
    clear hv1 HR0 HB1
    generalize (w.alloc (.cells #[.slice A0 l0.length c0] 38)).drewN nq = w2 at hv2 HR2 HB2 ⊢
    clear nq
    go_wp2
    go_quiet ((go_at_call 47; refine (bits_Size.calls a1 a2 t5 _ A5.out).mono ?_; rintro e w' ⟨rfl, ⟨nd, rfl⟩⟩; exact ⟨rfl, _, World.drewN_drewN ..⟩))
    go_wp2
    go_ret2
    exact ⟨_, rfl, Kd.R_nil _ _ _ _ _, pw_below_drewN HB2.out _⟩
  rw [if_neg c7] at H
  have c7b : decide (t5 < (l0.length : Int)) = false := decide_eq_false c7
  clear c7
  have H' := Aside0.mk H
  clear H
  go_enter Try.func45, Try.ntmps45
  go_wp2
  go_quiet ((go_at_call 47; refine (bits_Size.calls a1 a2 t5 _ A5.out).mono ?_; rintro e w' ⟨rfl, ⟨nd, rfl⟩⟩; exact ⟨rfl, _, World.drewN_drewN ..⟩))
  have hv2 : ((w.alloc (.cells #[.slice A0 l0.length c0] 38)).drewN nq).cell? ⟨w.heap.size, 0, none⟩ = some (.slice A0 l0.length c0) := hv1
  have HR2 := Aside0.mk (Kd.C_drewN HR0.out nq)
  have HB2 := Aside0.mk (pw_below_drewN HB1.out nq)
  clear hv1 HR0 HB1
  generalize (w.alloc (.cells #[.slice A0 l0.length c0] 38)).drewN nq = w2 at hv2 HR2 HB2 ⊢
  clear nq
  go_wp2
  go_quiet ((go_at_call 47; refine (bits_Size.calls a1 a2 t5 _ A5.out).mono ?_; rintro e w' ⟨rfl, ⟨nd, rfl⟩⟩; exact ⟨rfl, _, World.drewN_drewN ..⟩))
  have hv3 : (w2.drewN nq).cell? ⟨w.heap.size, 0, none⟩ = some (.slice A0 l0.length c0) := hv2
  have HR3 := Aside0.mk (Kd.C_drewN HR2.out nq)
  have HB3 := Aside0.mk (pw_below_drewN HB2.out nq)
  clear hv2 HR2 HB2
  generalize w2.drewN nq = w3 at hv3 HR3 HB3 ⊢
  clear nq
  go_wp2
  go_loopg [9] k (fun kq v9 w' => ∃ x9 : Int, v9 = .int .i64 x9 ∧ Aside0 (bits_Unpack.l0 kq l0 a1 a2 x9 = some (r1, r2)) ∧ Aside0 (kq ≤ k) ∧ w3 = w')
  case atStart => exact ⟨_, rfl, H', ⟨Nat.le_refl _⟩, rfl⟩
  case round =>
    clear H'
    obtain ⟨x9, rfl, HA, HK1, rfl⟩ := hrel
    cases gk with
    | zero => exact absurd HA.out (by simp [bits_Unpack.l0])
    | succ k1 =>
      have H := HA.out
      clear HA
      simp only [bits_Unpack.l0] at H
      by_cases d1 : x9 < wrap64 (8 * (l0.length : Int))
      · rw [if_pos d1] at H
        have d1b : decide (x9 < wrap64 (8 * (l0.length : Int))) = true := decide_eq_true d1
        clear d1
        obtain ⟨t6, A6, H⟩ := Option.bind_eq_some_iff.mp H
        replace A6 := Aside0.mk A6
        by_cases d2 : t6 > 0
        · rw [if_pos d2] at H
          simp only [Option.some.injEq, Prod.mk.injEq] at H
          obtain ⟨rfl, rfl⟩ := H
          have d2b : decide (0 < t6) = true := decide_eq_true d2
          clear d2
          go_wp2_with (go_at_call 48; refine (bits_Unpack_1.calls A0 c0 l0 x9 t6 _ _ HR3.out HC0.out hv3 A6.out).mono ?_; rintro e w' ⟨rfl, rfl⟩)
          go_ret2
          exact ⟨_, rfl, Kd.R_nil _ _ _ _ _, HB3.out⟩
        · rw [if_neg d2] at H
          have d2b : decide (0 < t6) = false := decide_eq_false d2
          clear d2
          have H' := Aside0.mk H
          clear H
          go_wp2_with (go_at_call 48; refine (bits_Unpack_1.calls A0 c0 l0 x9 t6 _ _ HR3.out HC0.out hv3 A6.out).mono ?_; rintro e w' ⟨rfl, rfl⟩)
          go_roundg k1
          case measure => have := HK1.out; omega
          case rel => exact ⟨_, rfl, H', ⟨by have := HK1.out; omega⟩, rfl⟩
      · rw [if_neg d1] at H
        have d1b : decide (x9 < wrap64 (8 * (l0.length : Int))) = false := decide_eq_false d1
        clear d1
        by_cases d3 : 0 ≤ a1
        · rw [if_pos d3] at H
          by_cases d4 : (a1 : Int).toNat ≤ 35184372088832
          · rw [if_pos d4] at H
            have d3b := eq_true d3
            have d3c : decide (0 ≤ a1) = true := decide_eq_true d3
            obtain ⟨y10, hy10⟩ : ∃ y_ : List Int, y_ = (List.replicate (a1 : Int).toNat 0) := ⟨_, rfl⟩
            have H2 : bits_Unpack.l1 k1 l0 a2 y10 (y10.length : Int) 0 = some (r1, r2) := by rw [hy10]; exact H
            clear H
            have Ny10 := Aside0.mk hy10
            clear hy10
            have H' := Aside0.mk H2
            clear H2
            go_wp2_with ((with_reducible refine gate_dst (N := 57) rfl ?_); refine Kd.R_make (Kd.int .u64) _ 53 rfl (N := 57) rfl 52 _ _ rfl a1 rfl rfl Try.underlying52 (.int .u64 0) 8 info53 rfl (by decide) (by omega) 0 (ok := fun _ => True) (okp := fun _ => True) rfl (fun _ hk => hk) trivial d3 (by omega) (Below.refl _ _) (Nat.le_refl _) ?_; intro v10 w4 ho4 hb4 hg4 hn4; clear hg4 hn4; rw [← Ny10.out] at ho4; obtain ⟨Ao4, co4, eo4⟩ := Kd.R_slice ho4; subst eo4)
            have HO := Aside0.mk ho4
            have HB4 := Aside0.mk hb4
            clear ho4 hb4
            go_loopg [60] k1 (fun kq v60 w' => ∃ (x10 : List Int) (x60 : Int), v60 = .int .i64 x60 ∧ Aside0 (bits_Unpack.l1 kq l0 a2 x10 (y10.length : Int) x60 = some (r1, r2)) ∧ Aside0 (kq ≤ k1) ∧ Aside0 (Kd.R (Kd.int .u64) 53 w' w3.heap.size (fun _ => True) (.slice Ao4 y10.length co4) x10) ∧ Aside0 (Below w3.heap.size w3 w'))
            case atStart => exact ⟨y10, 0, rfl, H', ⟨Nat.le_refl _⟩, HO, HB4⟩
            case round =>
              clear H' HO HB4
              obtain ⟨x10, x60, rfl, HA, HK2, HO, HB4⟩ := hrel
              cases gk with
              | zero => exact absurd HA.out (by simp [bits_Unpack.l1])
              | succ k2 =>
                have H := HA.out
                clear HA
                simp only [bits_Unpack.l1] at H
                by_cases d5 : x60 < (y10.length : Int)
                · rw [if_pos d5] at H
                  have d5b : decide (x60 < (y10.length : Int)) = true := decide_eq_true d5
                  have H' := Aside0.mk H
                  clear H d5
                  go_wp2
                  go_loopg [64] k2 (fun kq v64 w' => ∃ (x10 : List Int) (x64 : Int), v64 = .int .i64 x64 ∧ Aside0 (bits_Unpack.l2 kq l0 a2 x10 (y10.length : Int) x60 x64 = some (r1, r2)) ∧ Aside0 (kq ≤ k2) ∧ Aside0 (Kd.R (Kd.int .u64) 53 w' w3.heap.size (fun _ => True) (.slice Ao4 y10.length co4) x10) ∧ Aside0 (Below w3.heap.size w3 w'))
                  case atStart => exact ⟨x10, 0, rfl, H', ⟨Nat.le_refl _⟩, HO, HB4⟩
                  case round =>
                    clear H' HO HB4
                    obtain ⟨x10, x64, rfl, HA, HK3, HO, HB4⟩ := hrel
                    cases gk with
                    | zero => exact absurd HA.out (by simp [bits_Unpack.l2])
                    | succ k3 =>
                      have H := HA.out
                      clear HA
                      simp only [bits_Unpack.l2] at H
                      by_cases d6 : x64 < a2
                      · rw [if_pos d6] at H
                        have d6b : decide (x64 < a2) = true := decide_eq_true d6
                        clear d6
                        go_wp2
                        by_cases d7 : 0 ≤ x60
                        · rw [if_pos d7] at H
                          by_cases d8 : x60 < (x10.length : Int)
                          · rw [if_pos d8] at H
                            by_cases d9 : 0 ≤ x64
                            · rw [if_pos d9] at H
                              obtain ⟨t7, A7, H⟩ := Option.bind_eq_some_iff.mp H
                              replace A7 := Aside0.mk A7
                              obtain ⟨ji, hji⟩ : ∃ j_ : Int, shl .u64 t7 x64 = j_ := ⟨_, rfl⟩
                              rw [hji] at H
                              have hji_ : IntKind.u64.wrap (t7 * 2 ^ min x64.toNat 64) = ji := hji
                              have H' := Aside0.mk H
                              clear H hji
                              have hl10 := (Kd.R_reads' HO.out).1
                              have d9b := eq_true d9
                              have d9c : decide (0 ≤ x64) = true := decide_eq_true d9
                              obtain ⟨go5, co5, eo5, gb5, gl5, cl5, HG5⟩ := Kd.R_form HO.out (by omega)
                              injection eo5 with ea_ en_ ec_
                              subst ea_
                              subst ec_
                              clear en_
                              rw [← hl10] at d8
                              obtain ⟨hx5, hf5⟩ := Kd.R_celln 0 HO.out x60 d7 (by omega)
                              have hHR := Aside0.mk (Kd.C_drew (Kd.C_below HR3.out HB4.out))
                              have hvr : wr.drew.cell? ⟨w.heap.size, 0, none⟩ = some (.slice A0 l0.length c0) := pw_cell_below HB4.out hv3
                              have HL10 := Aside0.mk hl10
                              clear hl10
                              have GB5 := Aside0.mk gb5
                              clear gb5 gl5 HG5
                              replace d7 := eq_true d7
                              replace d8 := eq_true d8
                              refine wp_region_still_tail 15 (by kernel_rfl) (by kernel_rfl) ?_
                              simp only [List.take_succ_cons, List.take_zero, List.drop_succ_cons, List.drop_zero]
                              repeat still_step
                              refine wpStill_step (fun K hK => ?_)
                              go_simp
                              simp only [i64_w]
                              refine ⟨_, (bits_Unpack_1.calls A0 c0 l0 _ t7 _ _ hHR.out HC0.out hvr A7.out).mono (fun e w'' h => ⟨h.1, h.2.symm⟩), hK _ ?_⟩
                              clear hK K
                              repeat still_step
                              refine wpStill_nil ?_
                              change wpList _ _ _ _ _ wr.drew
                              have HO5 := Aside0.mk (Kd.R_drew HO.out)
                              have HB5 := Aside0.mk (below_drew1 HB4.out)
                              have hx6 : wr.drew.cell? ⟨go5, x60.toNat, none⟩ = some (.int .u64 (rd x10 x60)) := hx5
                              have hf6 : wr.drew.frozen? ⟨go5, x60.toNat, none⟩ = false := hf5
                              clear HO HB4 hx5 hf5 hHR hvr
                              generalize wr.drew = w5 at HO5 HB5 hx6 hf6 ⊢
                              have HQ := Aside0.mk (Kd.R_putn HO5.out x60 (Go.bits .or .u64 (rd x10 x60) ji))
                              have HBs := Aside0.mk (below_set (j := x60.toNat) (v := .int .u64 (Go.bits .or .u64 (rd x10 x60) ji)) HB5.out GB5.out)
                              go_wp2
                              go_roundg k3
                              case measure => have := HK1.out; have := HK2.out; have := HK3.out; omega
                              case rel => exact ⟨_, _, rfl, H', ⟨by have := HK2.out; have := HK3.out; omega⟩, HQ, HBs⟩
                            · rw [if_neg d9] at H
                              exact absurd H (by simp)
                          · rw [if_neg d8] at H
                            exact absurd H (by simp)
                        · rw [if_neg d7] at H
                          exact absurd H (by simp)
                      · rw [if_neg d6] at H
                        have d6b : decide (x64 < a2) = false := decide_eq_false d6
                        clear d6
                        have H' := Aside0.mk H
                        clear H
                        go_wp2
                        go_roundg k3
                        case measure => have := HK1.out; have := HK2.out; have := HK3.out; omega
                        case rel => exact ⟨x10, _, rfl, H', ⟨by have := HK2.out; have := HK3.out; omega⟩, HO, HB4⟩
                · rw [if_neg d5] at H
                  have d5b : decide (x60 < (y10.length : Int)) = false := decide_eq_false d5
                  clear d5
                  simp only [Option.some.injEq, Prod.mk.injEq] at H
                  obtain ⟨rfl, rfl⟩ := H
                  go_wp2
                  go_ret2
                  exact ⟨_, rfl, Kd.R_lower HO.out HB3.out.size, below_step HB3.out HB4.out⟩
          · rw [if_neg d4] at H
            exact absurd H (by simp)
        · rw [if_neg d3] at H
          exact absurd H (by simp)

-- NOT PRINTED: function 41 (runs_reader_groups)

/-! ### bytes_Equal: function 42 -/
def bytes_Equal.f (l0 : List Int) (l1 : List Int) : Option (Bool) := some ((strOfNums l0).toList == (strOfNums l1).toList)
set_option maxHeartbeats 8000000 in
set_option maxRecDepth 100000 in
theorem bytes_Equal.calls (A0 : Option Addr) (c0 : Nat) (l0 : List Int) (A1 : Option Addr) (c1 : Nat) (l1 : List Int) (r : Bool) (w : World) (hr0 : Kd.C (Kd.int .u8) w A0 l0.length l0) (hc0 : l0.length ≤ c0) (hr1 : Kd.C (Kd.int .u8) w A1 l1.length l1) (hc1 : l1.length ≤ c1) (h : bytes_Equal.f l0 l1 = some r) :
    Calls Try.prog 42 #[.slice A0 l0.length c0, .slice A1 l1.length c1] w fun e w' => e = .returned (.bool r) ∧ Drawn0 w w' := by
  have HR0 := Aside0.mk hr0
  have HC0 := Aside0.mk hc0
  clear hr0 hc0
  have HR1 := Aside0.mk hr1
  have HC1 := Aside0.mk hc1
  clear hr1 hc1
  have H : (some ((strOfNums l0).toList == (strOfNums l1).toList)) = some r := h
  clear h
  obtain rfl := Option.some.inj H
  have hcv3 := Kd.C_string (P := Try.prog) (A := A0) (c := c0) Try.underlying38 Try.underlying5 Try.underlying9 HR0.out
  have hcv4 := Kd.C_string (P := Try.prog) (A := A1) (c := c1) Try.underlying38 Try.underlying5 Try.underlying9 HR1.out
  go_enter Try.func42, Try.ntmps42
  go_wp2
  go_ret
  exact ⟨by first | rfl | (simp; done) | (simp [*]; done), by repeat (first | exact Drawn0.refl _ | apply Drawn0.step)⟩

end Go.Proofs.Ytodadonpfcefbaa.QDelsReads
