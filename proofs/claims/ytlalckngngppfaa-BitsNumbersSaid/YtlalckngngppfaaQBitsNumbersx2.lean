-- Written by a program of this session (wip/myprint.py): the machine's side of a law
import Derived.Test.YtlalckngngppfaaQBitsNumbersx0
import Derived.Test.YtlalckngngppfaaQBitsNumbersx1
namespace Go.Proofs.Ytlalckngngppfaa.QBitsNumbers
open Go.RowKit Go.Proofs.YtlalckngngppfaaW.PrintWords Go.Proofs.YtlalckngngppfaaW.PrintLast Go.Proofs.YtlalckngngppfaaW.PrintMore
attribute [local go_sem] max2_int min2_int max_two min_two max_three min_three max_four min_four   -- for this text's walks alone
set_option linter.unusedVariables false
set_option linter.unusedSimpArgs false

/-! ### bits_Unpack: function 14 -/
/-! ### bits.Unpack, whose captured bytes lie in a variable in memory: by hand -/
/-- The closure: a bit of the bytes. -/
def bits_Unpack_1.f (l0 : List Int) (a : Int) : Option Int :=
  if 0 ≤ (wrap64 (Int.tdiv a 8)) then (if (wrap64 (Int.tdiv a 8)) < (l0.length : Int) then (if 0 ≤ (Int.tmod a 8) then (some (Go.bits .and .u64 (IntKind.u64.wrap (shr .u8 (rd l0 (wrap64 (Int.tdiv a 8))) (Int.tmod a 8))) 1)) else (none)) else (none)) else (none)
mutual
def bits_Unpack.l0 : Nat → List Int → Int → Int → Int → Option (List Int × Int)
  | 0, _, _, _, _ => none
  | k + 1, x0, x1, x2, x9 => if x9 < (wrap64 (8 * (x0.length : Int))) then ((bits_Unpack_1.f x0 x9).bind fun t => (if t > 0 then (some (([] : List Int), 12)) else (bits_Unpack.l0 k x0 x1 x2 (wrap64 (x9 + 1))))) else (if 0 ≤ x1 then (if (x1 : Int).toNat ≤ 35184372088832 then (bits_Unpack.l1 k x0 x2 (List.replicate (x1 : Int).toNat 0) ((List.replicate (x1 : Int).toNat (0 : Int)).length : Int) 0) else (none)) else (none))
def bits_Unpack.l1 : Nat → List Int → Int → List Int → Int → Int → Option (List Int × Int)
  | 0, _, _, _, _, _ => none
  | k + 1, x0, x2, x10, x59, x60 => if x60 < x59 then (bits_Unpack.l2 k x0 x2 x10 x59 x60 0) else (some (x10, 0))
def bits_Unpack.l2 : Nat → List Int → Int → List Int → Int → Int → Int → Option (List Int × Int)
  | 0, _, _, _, _, _, _ => none
  | k + 1, x0, x2, x10, x59, x60, x64 => if x64 < x2 then (if 0 ≤ x60 then (if x60 < (x10.length : Int) then (if 0 ≤ x64 then ((bits_Unpack_1.f x0 (wrap64 ((wrap64 (x60 * x2)) + x64))).bind fun t => (bits_Unpack.l2 k x0 x2 (x10.set (x60 : Int).toNat (Go.bits .or .u64 (rd x10 x60) (shl .u64 t x64))) x59 x60 (wrap64 (x64 + 1)))) else (none)) else (none)) else (none)) else (bits_Unpack.l1 k x0 x2 x10 x59 (wrap64 (x60 + 1)))
end
def bits_Unpack.f (k : Nat) (l0 : List Int) (a1 : Int) (a2 : Int) : Option (List Int × Int) :=
  if a2 < 0 then (some (([] : List Int), 15)) else (if a2 > 64 then (some (([] : List Int), 15)) else (if a1 < 0 then (some (([] : List Int), 1)) else (if a1 > 16777216 then (some (([] : List Int), 1)) else ((bits_Size.f a1 a2).bind fun t => (if (l0.length : Int) < t then (some (([] : List Int), 10)) else (if (l0.length : Int) > t then (some (([] : List Int), 11)) else (bits_Unpack.l0 k l0 a1 a2 (wrap64 (a1 * a2)))))))))
theorem bits_Unpack.mono_l : ∀ k, (∀ y0 y1 y2 y3, LeO (bits_Unpack.l0 k y0 y1 y2 y3) (bits_Unpack.l0 (k + 1) y0 y1 y2 y3)) ∧ (∀ y0 y1 y2 y3 y4, LeO (bits_Unpack.l1 k y0 y1 y2 y3 y4) (bits_Unpack.l1 (k + 1) y0 y1 y2 y3 y4)) ∧ (∀ y0 y1 y2 y3 y4 y5, LeO (bits_Unpack.l2 k y0 y1 y2 y3 y4 y5) (bits_Unpack.l2 (k + 1) y0 y1 y2 y3 y4 y5))
  | 0 => ⟨fun _ _ _ _ r h => by simp [bits_Unpack.l0] at h, fun _ _ _ _ _ r h => by simp [bits_Unpack.l1] at h, fun _ _ _ _ _ _ r h => by simp [bits_Unpack.l2] at h⟩
  | k + 1 => by
    obtain ⟨ih0, ih1, ih2⟩ := bits_Unpack.mono_l k
    refine ⟨?_, ?_, ?_⟩
    · intro y0 y1 y2 y3
      unfold bits_Unpack.l0
      repeat' first
      | exact ih0 _ _ _ _
      | exact ih1 _ _ _ _ _
      | (with_reducible exact LeO.refl _)
      | exact LeO.none _
      | refine LeO.ite ?_ ?_
      | refine LeO.bind ?_ (fun _ => ?_)
    · intro y0 y1 y2 y3 y4
      unfold bits_Unpack.l1
      repeat' first
      | exact ih2 _ _ _ _ _ _
      | (with_reducible exact LeO.refl _)
      | exact LeO.none _
      | refine LeO.ite ?_ ?_
      | refine LeO.bind ?_ (fun _ => ?_)
    · intro y0 y1 y2 y3 y4 y5
      unfold bits_Unpack.l2
      repeat' first
      | exact ih1 _ _ _ _ _
      | exact ih2 _ _ _ _ _ _
      | (with_reducible exact LeO.refl _)
      | exact LeO.none _
      | refine LeO.ite ?_ ?_
      | refine LeO.bind ?_ (fun _ => ?_)
theorem bits_Unpack.mono : ∀ a0 a1 a2 k, LeO (bits_Unpack.f k a0 a1 a2) (bits_Unpack.f (k + 1) a0 a1 a2) := by
  intro a0 a1 a2 k
  obtain ⟨ih0, ih1, ih2⟩ := bits_Unpack.mono_l k
  unfold bits_Unpack.f
  repeat' first
      | exact ih0 _ _ _ _
      | (with_reducible exact LeO.refl _)
      | exact LeO.none _
      | refine LeO.ite ?_ ?_
      | refine LeO.bind ?_ (fun _ => ?_)
set_option maxHeartbeats 8000000 in
set_option maxRecDepth 100000 in
theorem bits_Unpack_1.calls (A0 : Option Addr) (c0 : Nat) (l0 : List Int) (a : Int) (r : Int) (g : Nat) (w : World) (hr0 : Kd.C (Kd.int .u8) w A0 l0.length l0) (hc0 : l0.length ≤ c0) (hv : w.cell? ⟨g, 0, none⟩ = some (.slice A0 l0.length c0)) (h : bits_Unpack_1.f l0 a = some r) :
    Calls Try.prog 21 #[.int .i64 a, .pointer (some ⟨g, 0, none⟩)] w fun e w' => e = .returned (.int .u64 r) ∧ w = w' := by
  have HR0 := Aside0.mk hr0
  have HC0 := Aside0.mk hc0
  clear hr0 hc0
  have H := h
  clear h
  unfold bits_Unpack_1.f at H
  obtain ⟨ji7, hji7⟩ : ∃ j_ : Int, (wrap64 (Int.tdiv a 8)) = j_ := ⟨_, rfl⟩
  rw [hji7] at H
  by_cases c1 : 0 ≤ ji7
  · rw [if_pos c1] at H
    by_cases c2 : ji7 < (l0.length : Int)
    · rw [if_pos c2] at H
      by_cases c3 : 0 ≤ Int.tmod a 8
      · rw [if_pos c3] at H
        obtain ⟨ji8, hji8⟩ : ∃ j_ : Int, Int.tmod a 8 = j_ := ⟨_, rfl⟩
        rw [hji8] at H c3
        obtain ⟨ad, e1, hx⟩ := Kd.at_int HR0.out ji7 c1 c2
        cases e1
        obtain ⟨ji9, hji9⟩ : ∃ j_ : Int, shr .u8 (rd l0 ji7) ji8 = j_ := ⟨_, rfl⟩
        rw [hji9] at H
        have hji9_ : (rd l0 ji7) / 2 ^ min ji8.toNat 8 = ji9 := hji9
        obtain rfl := Option.some.inj H
        clear H
        have c1b : decide (0 ≤ ji7) = true := decide_eq_true c1
        have c2b : decide (ji7 < (l0.length : Int)) = true := decide_eq_true c2
        have c3b : decide (0 ≤ ji8) = true := decide_eq_true c3
        replace c1 := eq_true c1
        replace c2 := eq_true c2
        replace c3 := eq_true c3
        clear hji9
        go_enter Try.func21, Try.ntmps21
        go_wp2
        go_ret
        exact ⟨rfl, rfl⟩
      · rw [if_neg c3] at H
        exact absurd H (by simp)
    · rw [if_neg c2] at H
      exact absurd H (by simp)
  · rw [if_neg c1] at H
    exact absurd H (by simp)
set_option maxHeartbeats 8000000 in
set_option maxRecDepth 100000 in
theorem bits_Unpack.calls (k : Nat) (A0 : Option Addr) (c0 : Nat) (l0 : List Int) (a1 : Int) (a2 : Int) (r1 : List Int) (r2 : Int) (w : World) (hr0 : Kd.C (Kd.int .u8) w A0 l0.length l0) (hc0 : l0.length ≤ c0) (h : bits_Unpack.f k l0 a1 a2 = some (r1, r2)) :
    Calls Try.prog 14 #[.slice A0 l0.length c0, .int .i64 a1, .int .i64 a2] w fun e w' => ∃ v0_ : Value, e = .returned (.tuple #[v0_, .int .i64 r2]) ∧ Kd.R (Kd.int .u64) 29 w' w.heap.size (fun _ => True) v0_ r1 ∧ Below w.heap.size w w' := by
  have HR0 := Aside0.mk (Kd.C_alloc hr0 (.cells #[.slice A0 l0.length c0] 25))
  have HC0 := Aside0.mk hc0
  have HB1 := Aside0.mk (below_alloc (Below.refl w.heap.size w) (.cells #[.slice A0 l0.length c0] 25))
  have hv1 : (w.alloc (.cells #[.slice A0 l0.length c0] 25)).cell? ⟨w.heap.size, 0, none⟩ = some (.slice A0 l0.length c0) := cell_of_one (blk_new w _)
  have hmf : ∀ (fn : Fn) (first cap : Array Value) (w : World), (Instr.makeFunc fn first cap).run Try.prog w = .ok (.func fn first cap) w := fun _ _ _ _ => rfl
  clear hr0 hc0
  have H := h
  clear h
  unfold bits_Unpack.f at H
  by_cases c1 : a2 < 0
  · rw [if_pos c1] at H
    simp only [Option.some.injEq, Prod.mk.injEq] at H
    obtain ⟨rfl, rfl⟩ := H
    have c1b : decide (a2 < 0) = true := decide_eq_true c1
    clear c1
    go_enter Try.func14, Try.ntmps14
    go_wp2
    go_ret2
    exact ⟨_, rfl, Kd.R_nil _ _ _ _ _, HB1.out⟩
  rw [if_neg c1] at H
  have c1b : decide (a2 < 0) = false := decide_eq_false c1
  clear c1
  by_cases c2 : a2 > 64
  · rw [if_pos c2] at H
    simp only [Option.some.injEq, Prod.mk.injEq] at H
    obtain ⟨rfl, rfl⟩ := H
    have c2b : decide (64 < a2) = true := decide_eq_true c2
    clear c2
    go_enter Try.func14, Try.ntmps14
    go_wp2
    go_ret2
    exact ⟨_, rfl, Kd.R_nil _ _ _ _ _, HB1.out⟩
  rw [if_neg c2] at H
  have c2b : decide (64 < a2) = false := decide_eq_false c2
  clear c2
  by_cases c3 : a1 < 0
  · rw [if_pos c3] at H
    simp only [Option.some.injEq, Prod.mk.injEq] at H
    obtain ⟨rfl, rfl⟩ := H
    have c3b : decide (a1 < 0) = true := decide_eq_true c3
    clear c3
    go_enter Try.func14, Try.ntmps14
    go_wp2
    go_ret2
    exact ⟨_, rfl, Kd.R_nil _ _ _ _ _, HB1.out⟩
  rw [if_neg c3] at H
  have c3b : decide (a1 < 0) = false := decide_eq_false c3
  clear c3
  by_cases c4 : a1 > 16777216
  · rw [if_pos c4] at H
    simp only [Option.some.injEq, Prod.mk.injEq] at H
    obtain ⟨rfl, rfl⟩ := H
    have c4b : decide (16777216 < a1) = true := decide_eq_true c4
    clear c4
    go_enter Try.func14, Try.ntmps14
    go_wp2
    go_ret2
    exact ⟨_, rfl, Kd.R_nil _ _ _ _ _, HB1.out⟩
  rw [if_neg c4] at H
  have c4b : decide (16777216 < a1) = false := decide_eq_false c4
  clear c4
  obtain ⟨t5, A5, H⟩ := Option.bind_eq_some_iff.mp H
  replace A5 := Aside0.mk A5
  by_cases c6 : (l0.length : Int) < t5
  · rw [if_pos c6] at H
    simp only [Option.some.injEq, Prod.mk.injEq] at H
    obtain ⟨rfl, rfl⟩ := H
    have c6b : decide ((l0.length : Int) < t5) = true := decide_eq_true c6
    clear c6
    go_enter Try.func14, Try.ntmps14
    go_wp2
    go_quiet ((go_at_call 15; refine (bits_Size.calls a1 a2 t5 _ A5.out).mono ?_; rintro e w' ⟨rfl, ⟨nd, rfl⟩⟩; exact ⟨rfl, _, World.drewN_drewN ..⟩))
    go_wp2
    go_ret2
    exact ⟨_, rfl, Kd.R_nil _ _ _ _ _, pw_below_drewN HB1.out _⟩
  rw [if_neg c6] at H
  have c6b : decide ((l0.length : Int) < t5) = false := decide_eq_false c6
  clear c6
  by_cases c7 : (l0.length : Int) > t5
  · rw [if_pos c7] at H
    simp only [Option.some.injEq, Prod.mk.injEq] at H
    obtain ⟨rfl, rfl⟩ := H
    have c7b : decide (t5 < (l0.length : Int)) = true := decide_eq_true c7
    clear c7
    go_enter Try.func14, Try.ntmps14
    go_wp2
    go_quiet ((go_at_call 15; refine (bits_Size.calls a1 a2 t5 _ A5.out).mono ?_; rintro e w' ⟨rfl, ⟨nd, rfl⟩⟩; exact ⟨rfl, _, World.drewN_drewN ..⟩))
    have hv2 : ((w.alloc (.cells #[.slice A0 l0.length c0] 25)).drewN nq).cell? ⟨w.heap.size, 0, none⟩ = some (.slice A0 l0.length c0) := hv1
    have HR2 := Aside0.mk (Kd.C_drewN HR0.out nq)
    have HB2 := Aside0.mk (pw_below_drewN HB1.out nq)
    clear hv1 HR0 HB1
    generalize (w.alloc (.cells #[.slice A0 l0.length c0] 25)).drewN nq = w2 at hv2 HR2 HB2 ⊢
    clear nq
    go_wp2
    go_quiet ((go_at_call 15; refine (bits_Size.calls a1 a2 t5 _ A5.out).mono ?_; rintro e w' ⟨rfl, ⟨nd, rfl⟩⟩; exact ⟨rfl, _, World.drewN_drewN ..⟩))
    go_wp2
    go_ret2
    exact ⟨_, rfl, Kd.R_nil _ _ _ _ _, pw_below_drewN HB2.out _⟩
  rw [if_neg c7] at H
  have c7b : decide (t5 < (l0.length : Int)) = false := decide_eq_false c7
  clear c7
  have H' := Aside0.mk H
  clear H
  go_enter Try.func14, Try.ntmps14
  go_wp2
  go_quiet ((go_at_call 15; refine (bits_Size.calls a1 a2 t5 _ A5.out).mono ?_; rintro e w' ⟨rfl, ⟨nd, rfl⟩⟩; exact ⟨rfl, _, World.drewN_drewN ..⟩))
  have hv2 : ((w.alloc (.cells #[.slice A0 l0.length c0] 25)).drewN nq).cell? ⟨w.heap.size, 0, none⟩ = some (.slice A0 l0.length c0) := hv1
  have HR2 := Aside0.mk (Kd.C_drewN HR0.out nq)
  have HB2 := Aside0.mk (pw_below_drewN HB1.out nq)
  clear hv1 HR0 HB1
  generalize (w.alloc (.cells #[.slice A0 l0.length c0] 25)).drewN nq = w2 at hv2 HR2 HB2 ⊢
  clear nq
  go_wp2
  go_quiet ((go_at_call 15; refine (bits_Size.calls a1 a2 t5 _ A5.out).mono ?_; rintro e w' ⟨rfl, ⟨nd, rfl⟩⟩; exact ⟨rfl, _, World.drewN_drewN ..⟩))
  have hv3 : (w2.drewN nq).cell? ⟨w.heap.size, 0, none⟩ = some (.slice A0 l0.length c0) := hv2
  have HR3 := Aside0.mk (Kd.C_drewN HR2.out nq)
  have HB3 := Aside0.mk (pw_below_drewN HB2.out nq)
  clear hv2 HR2 HB2
  generalize w2.drewN nq = w3 at hv3 HR3 HB3 ⊢
  clear nq
  go_wp2
  go_loopg [9] k (fun kq v9 w' => ∃ x9 : Int, v9 = .int .i64 x9 ∧ Aside0 (bits_Unpack.l0 kq l0 a1 a2 x9 = some (r1, r2)) ∧ Aside0 (kq ≤ k) ∧ w3 = w')
  case atStart => exact ⟨_, rfl, H', ⟨Nat.le_refl _⟩, rfl⟩
  case round =>
    clear H'
    obtain ⟨x9, rfl, HA, HK1, rfl⟩ := hrel
    cases gk with
    | zero => exact absurd HA.out (by simp [bits_Unpack.l0])
    | succ k1 =>
      have H := HA.out
      clear HA
      simp only [bits_Unpack.l0] at H
      by_cases d1 : x9 < wrap64 (8 * (l0.length : Int))
      · rw [if_pos d1] at H
        have d1b : decide (x9 < wrap64 (8 * (l0.length : Int))) = true := decide_eq_true d1
        clear d1
        obtain ⟨t6, A6, H⟩ := Option.bind_eq_some_iff.mp H
        replace A6 := Aside0.mk A6
        by_cases d2 : t6 > 0
        · rw [if_pos d2] at H
          simp only [Option.some.injEq, Prod.mk.injEq] at H
          obtain ⟨rfl, rfl⟩ := H
          have d2b : decide (0 < t6) = true := decide_eq_true d2
          clear d2
          go_wp2_with (go_at_call 21; refine (bits_Unpack_1.calls A0 c0 l0 x9 t6 _ _ HR3.out HC0.out hv3 A6.out).mono ?_; rintro e w' ⟨rfl, rfl⟩)
          go_ret2
          exact ⟨_, rfl, Kd.R_nil _ _ _ _ _, HB3.out⟩
        · rw [if_neg d2] at H
          have d2b : decide (0 < t6) = false := decide_eq_false d2
          clear d2
          have H' := Aside0.mk H
          clear H
          go_wp2_with (go_at_call 21; refine (bits_Unpack_1.calls A0 c0 l0 x9 t6 _ _ HR3.out HC0.out hv3 A6.out).mono ?_; rintro e w' ⟨rfl, rfl⟩)
          go_roundg k1
          case measure => have := HK1.out; omega
          case rel => exact ⟨_, rfl, H', ⟨by have := HK1.out; omega⟩, rfl⟩
      · rw [if_neg d1] at H
        have d1b : decide (x9 < wrap64 (8 * (l0.length : Int))) = false := decide_eq_false d1
        clear d1
        by_cases d3 : 0 ≤ a1
        · rw [if_pos d3] at H
          by_cases d4 : (a1 : Int).toNat ≤ 35184372088832
          · rw [if_pos d4] at H
            have d3b := eq_true d3
            have d3c : decide (0 ≤ a1) = true := decide_eq_true d3
            obtain ⟨y10, hy10⟩ : ∃ y_ : List Int, y_ = (List.replicate (a1 : Int).toNat 0) := ⟨_, rfl⟩
            have H2 : bits_Unpack.l1 k1 l0 a2 y10 (y10.length : Int) 0 = some (r1, r2) := by rw [hy10]; exact H
            clear H
            have Ny10 := Aside0.mk hy10
            clear hy10
            have H' := Aside0.mk H2
            clear H2
            go_wp2_with ((with_reducible refine gate_dst (N := 57) rfl ?_); refine Kd.R_make (Kd.int .u64) _ 29 rfl (N := 57) rfl 22 _ _ rfl a1 rfl rfl Try.underlying22 (.int .u64 0) 8 info29 rfl (by decide) (by omega) 0 (ok := fun _ => True) (okp := fun _ => True) rfl (fun _ hk => hk) trivial d3 (by omega) (Below.refl _ _) (Nat.le_refl _) ?_; intro v10 w4 ho4 hb4 hg4 hn4; clear hg4 hn4; rw [← Ny10.out] at ho4; obtain ⟨Ao4, co4, eo4⟩ := Kd.R_slice ho4; subst eo4)
            have HO := Aside0.mk ho4
            have HB4 := Aside0.mk hb4
            clear ho4 hb4
            go_loopg [60] k1 (fun kq v60 w' => ∃ (x10 : List Int) (x60 : Int), v60 = .int .i64 x60 ∧ Aside0 (bits_Unpack.l1 kq l0 a2 x10 (y10.length : Int) x60 = some (r1, r2)) ∧ Aside0 (kq ≤ k1) ∧ Aside0 (Kd.R (Kd.int .u64) 29 w' w3.heap.size (fun _ => True) (.slice Ao4 y10.length co4) x10) ∧ Aside0 (Below w3.heap.size w3 w'))
            case atStart => exact ⟨y10, 0, rfl, H', ⟨Nat.le_refl _⟩, HO, HB4⟩
            case round =>
              clear H' HO HB4
              obtain ⟨x10, x60, rfl, HA, HK2, HO, HB4⟩ := hrel
              cases gk with
              | zero => exact absurd HA.out (by simp [bits_Unpack.l1])
              | succ k2 =>
                have H := HA.out
                clear HA
                simp only [bits_Unpack.l1] at H
                by_cases d5 : x60 < (y10.length : Int)
                · rw [if_pos d5] at H
                  have d5b : decide (x60 < (y10.length : Int)) = true := decide_eq_true d5
                  have H' := Aside0.mk H
                  clear H d5
                  go_wp2
                  go_loopg [64] k2 (fun kq v64 w' => ∃ (x10 : List Int) (x64 : Int), v64 = .int .i64 x64 ∧ Aside0 (bits_Unpack.l2 kq l0 a2 x10 (y10.length : Int) x60 x64 = some (r1, r2)) ∧ Aside0 (kq ≤ k2) ∧ Aside0 (Kd.R (Kd.int .u64) 29 w' w3.heap.size (fun _ => True) (.slice Ao4 y10.length co4) x10) ∧ Aside0 (Below w3.heap.size w3 w'))
                  case atStart => exact ⟨x10, 0, rfl, H', ⟨Nat.le_refl _⟩, HO, HB4⟩
                  case round =>
                    clear H' HO HB4
                    obtain ⟨x10, x64, rfl, HA, HK3, HO, HB4⟩ := hrel
                    cases gk with
                    | zero => exact absurd HA.out (by simp [bits_Unpack.l2])
                    | succ k3 =>
                      have H := HA.out
                      clear HA
                      simp only [bits_Unpack.l2] at H
                      by_cases d6 : x64 < a2
                      · rw [if_pos d6] at H
                        have d6b : decide (x64 < a2) = true := decide_eq_true d6
                        clear d6
                        go_wp2
                        by_cases d7 : 0 ≤ x60
                        · rw [if_pos d7] at H
                          by_cases d8 : x60 < (x10.length : Int)
                          · rw [if_pos d8] at H
                            by_cases d9 : 0 ≤ x64
                            · rw [if_pos d9] at H
                              obtain ⟨t7, A7, H⟩ := Option.bind_eq_some_iff.mp H
                              replace A7 := Aside0.mk A7
                              obtain ⟨ji, hji⟩ : ∃ j_ : Int, shl .u64 t7 x64 = j_ := ⟨_, rfl⟩
                              rw [hji] at H
                              have hji_ : IntKind.u64.wrap (t7 * 2 ^ min x64.toNat 64) = ji := hji
                              have H' := Aside0.mk H
                              clear H hji
                              have hl10 := (Kd.R_reads' HO.out).1
                              have d9b := eq_true d9
                              have d9c : decide (0 ≤ x64) = true := decide_eq_true d9
                              obtain ⟨go5, co5, eo5, gb5, gl5, cl5, HG5⟩ := Kd.R_form HO.out (by omega)
                              injection eo5 with ea_ en_ ec_
                              subst ea_
                              subst ec_
                              clear en_
                              rw [← hl10] at d8
                              obtain ⟨hx5, hf5⟩ := Kd.R_celln 0 HO.out x60 d7 (by omega)
                              have hHR := Aside0.mk (Kd.C_drew (Kd.C_below HR3.out HB4.out))
                              have hvr : wr.drew.cell? ⟨w.heap.size, 0, none⟩ = some (.slice A0 l0.length c0) := pw_cell_below HB4.out hv3
                              have HL10 := Aside0.mk hl10
                              clear hl10
                              have GB5 := Aside0.mk gb5
                              clear gb5 gl5 HG5
                              replace d7 := eq_true d7
                              replace d8 := eq_true d8
                              refine wp_region_still_tail 15 (by kernel_rfl) (by kernel_rfl) ?_
                              simp only [List.take_succ_cons, List.take_zero, List.drop_succ_cons, List.drop_zero]
                              repeat still_step
                              refine wpStill_step (fun K hK => ?_)
                              go_simp
                              simp only [i64_w]
                              refine ⟨_, (bits_Unpack_1.calls A0 c0 l0 _ t7 _ _ hHR.out HC0.out hvr A7.out).mono (fun e w'' h => ⟨h.1, h.2.symm⟩), hK _ ?_⟩
                              clear hK K
                              repeat still_step
                              refine wpStill_nil ?_
                              change wpList _ _ _ _ _ wr.drew
                              have HO5 := Aside0.mk (Kd.R_drew HO.out)
                              have HB5 := Aside0.mk (below_drew1 HB4.out)
                              have hx6 : wr.drew.cell? ⟨go5, x60.toNat, none⟩ = some (.int .u64 (rd x10 x60)) := hx5
                              have hf6 : wr.drew.frozen? ⟨go5, x60.toNat, none⟩ = false := hf5
                              clear HO HB4 hx5 hf5 hHR hvr
                              generalize wr.drew = w5 at HO5 HB5 hx6 hf6 ⊢
                              have HQ := Aside0.mk (Kd.R_putn HO5.out x60 (Go.bits .or .u64 (rd x10 x60) ji))
                              have HBs := Aside0.mk (below_set (j := x60.toNat) (v := .int .u64 (Go.bits .or .u64 (rd x10 x60) ji)) HB5.out GB5.out)
                              go_wp2
                              go_roundg k3
                              case measure => have := HK1.out; have := HK2.out; have := HK3.out; omega
                              case rel => exact ⟨_, _, rfl, H', ⟨by have := HK2.out; have := HK3.out; omega⟩, HQ, HBs⟩
                            · rw [if_neg d9] at H
                              exact absurd H (by simp)
                          · rw [if_neg d8] at H
                            exact absurd H (by simp)
                        · rw [if_neg d7] at H
                          exact absurd H (by simp)
                      · rw [if_neg d6] at H
                        have d6b : decide (x64 < a2) = false := decide_eq_false d6
                        clear d6
                        have H' := Aside0.mk H
                        clear H
                        go_wp2
                        go_roundg k3
                        case measure => have := HK1.out; have := HK2.out; have := HK3.out; omega
                        case rel => exact ⟨x10, _, rfl, H', ⟨by have := HK2.out; have := HK3.out; omega⟩, HO, HB4⟩
                · rw [if_neg d5] at H
                  have d5b : decide (x60 < (y10.length : Int)) = false := decide_eq_false d5
                  clear d5
                  simp only [Option.some.injEq, Prod.mk.injEq] at H
                  obtain ⟨rfl, rfl⟩ := H
                  go_wp2
                  go_ret2
                  exact ⟨_, rfl, Kd.R_lower HO.out HB3.out.size, below_step HB3.out HB4.out⟩
          · rw [if_neg d4] at H
            exact absurd H (by simp)
        · rw [if_neg d3] at H
          exact absurd H (by simp)

/-! ### columbariumlaw3_BitsNumbers: function 5 -/
def columbariumlaw3_BitsNumbers.f (k : Nat)  : Option (Bool) := (bits_Pack.f k (([0, 0] : List Int)) 0).bind fun bt126 => ((bits_Pack.f k ([] : List Int) 65).bind fun bt130 => ((bits_Unpack.f k ([] : List Int) 0 (-1)).bind fun bt134 => ((bits_Unpack.f k ([] : List Int) (-1) 3).bind fun bt138 => ((bits_Unpack.f k (([1] : List Int)) 3 4).bind fun bt145 => ((bits_Unpack.f k (([1, 0, 0] : List Int)) 3 4).bind fun bt152 => ((bits_Unpack.f k (([255] : List Int)) 1 2).bind fun bt159 => ((bits_Unpack.f k (([3] : List Int)) 1 2).bind fun bt166 => ((bits_Unpack.f k ([] : List Int) 5 0).bind fun bt170 => ((bits_Unpack.f k ([] : List Int) 16777217 0).bind fun bt174 => ((bits_Pack.f k (([18446744073709551615, 5] : List Int)) 64).bind fun bt181 => (if (bt126.1.length : Int) = 0 then (if bt126.2 = 0 then (if bt130.2 = 15 then (if bt134.2 = 15 then (if bt138.2 = 1 then (if bt145.2 = 10 then (if bt152.2 = 11 then (if bt159.2 = 12 then (if bt166.2 = 0 then (if (bt166.1.length : Int) = 1 then (if 0 < (bt166.1.length : Int) then (if (rd bt166.1 0) = 3 then (if (bt170.1.length : Int) = 5 then (if bt170.2 = 0 then (if bt174.2 = 1 then (if (bt181.1.length : Int) = 16 then (if bt181.2 = 0 then ((bits_Width.f k ([] : List Int)).bind fun t186 => (if t186 = 0 then ((bits_Width.f k (([9223372036854775808] : List Int))).bind fun t190 => (if t190 = 64 then ((bits_Size.f 3 3).bind fun t191 => (if t191 = 2 then ((bits_Size.f (-1) 3).bind fun t192 => (if t192 = 0 then ((bits_Size.f 16777217 1).bind fun t193 => (if t193 = 0 then ((columbariumlaw3_known.f k).bind fun t194 => (some t194)) else (some false))) else (some false))) else (some false))) else (some false))) else (some false))) else (some false)) else (some false)) else (some false)) else (some false)) else (some false)) else (some false)) else (none)) else (some false)) else (some false)) else (some false)) else (some false)) else (some false)) else (some false)) else (some false)) else (some false)) else (some false)) else (some false))))))))))))
theorem columbariumlaw3_BitsNumbers.mono : ∀ k, LeO (columbariumlaw3_BitsNumbers.f k ) (columbariumlaw3_BitsNumbers.f (k + 1) ) := by
  intro  k
  unfold columbariumlaw3_BitsNumbers.f
  repeat' first
      | (with_reducible exact bits_Pack.mono _ _ _)
      | (with_reducible exact bits_Unpack.mono _ _ _ _)
      | (with_reducible exact bits_Width.mono _ _)
      | (with_reducible exact columbariumlaw3_known.mono _)
      | (with_reducible exact LeO.refl _)
      | (with_reducible exact LeO.none _)
      | (with_reducible refine LeO.ite ?_ ?_)
      | (with_reducible refine LeO.bind ?_ (fun _ => ?_))
      | exact bits_Pack.mono _ _ _
      | exact bits_Unpack.mono _ _ _ _
      | exact bits_Width.mono _ _
      | exact columbariumlaw3_known.mono _
      | exact LeO.none _
      | refine LeO.ite ?_ ?_
      | refine LeO.bind ?_ (fun _ => ?_)
set_option maxHeartbeats 8000000 in
set_option maxRecDepth 100000 in
theorem columbariumlaw3_BitsNumbers.calls (k : Nat)  (r : Bool) (w : World) (hrt_ : Aside0 (r = true)) (h : columbariumlaw3_BitsNumbers.f k  = some r) :
    Calls Try.prog 5 #[] w fun e w' => e = .returned (.bool r) ∧ Below w.heap.size w w' := by
  have HB := Aside0.mk (Below.refl w.heap.size w)
  have H : ((bits_Pack.f k (([0, 0] : List Int)) 0).bind fun bt126 => ((bits_Pack.f k ([] : List Int) 65).bind fun bt130 => ((bits_Unpack.f k ([] : List Int) 0 (-1)).bind fun bt134 => ((bits_Unpack.f k ([] : List Int) (-1) 3).bind fun bt138 => ((bits_Unpack.f k (([1] : List Int)) 3 4).bind fun bt145 => ((bits_Unpack.f k (([1, 0, 0] : List Int)) 3 4).bind fun bt152 => ((bits_Unpack.f k (([255] : List Int)) 1 2).bind fun bt159 => ((bits_Unpack.f k (([3] : List Int)) 1 2).bind fun bt166 => ((bits_Unpack.f k ([] : List Int) 5 0).bind fun bt170 => ((bits_Unpack.f k ([] : List Int) 16777217 0).bind fun bt174 => ((bits_Pack.f k (([18446744073709551615, 5] : List Int)) 64).bind fun bt181 => (if (bt126.1.length : Int) = 0 then (if bt126.2 = 0 then (if bt130.2 = 15 then (if bt134.2 = 15 then (if bt138.2 = 1 then (if bt145.2 = 10 then (if bt152.2 = 11 then (if bt159.2 = 12 then (if bt166.2 = 0 then (if (bt166.1.length : Int) = 1 then (if 0 < (bt166.1.length : Int) then (if (rd bt166.1 0) = 3 then (if (bt170.1.length : Int) = 5 then (if bt170.2 = 0 then (if bt174.2 = 1 then (if (bt181.1.length : Int) = 16 then (if bt181.2 = 0 then ((bits_Width.f k ([] : List Int)).bind fun t186 => (if t186 = 0 then ((bits_Width.f k (([9223372036854775808] : List Int))).bind fun t190 => (if t190 = 64 then ((bits_Size.f 3 3).bind fun t191 => (if t191 = 2 then ((bits_Size.f (-1) 3).bind fun t192 => (if t192 = 0 then ((bits_Size.f 16777217 1).bind fun t193 => (if t193 = 0 then ((columbariumlaw3_known.f k).bind fun t194 => (some t194)) else (some false))) else (some false))) else (some false))) else (some false))) else (some false))) else (some false)) else (some false)) else (some false)) else (some false)) else (some false)) else (some false)) else (none)) else (some false)) else (some false)) else (some false)) else (some false)) else (some false)) else (some false)) else (some false)) else (some false)) else (some false)) else (some false))))))))))))) = some r := h
  clear h
  obtain ⟨y123, hy123⟩ : ∃ y_ : List Int, y_ = (([0, 0] : List Int)) := ⟨_, rfl⟩
  replace H : ((bits_Pack.f k y123 0).bind fun bt126 => ((bits_Pack.f k ([] : List Int) 65).bind fun bt130 => ((bits_Unpack.f k ([] : List Int) 0 (-1)).bind fun bt134 => ((bits_Unpack.f k ([] : List Int) (-1) 3).bind fun bt138 => ((bits_Unpack.f k (([1] : List Int)) 3 4).bind fun bt145 => ((bits_Unpack.f k (([1, 0, 0] : List Int)) 3 4).bind fun bt152 => ((bits_Unpack.f k (([255] : List Int)) 1 2).bind fun bt159 => ((bits_Unpack.f k (([3] : List Int)) 1 2).bind fun bt166 => ((bits_Unpack.f k ([] : List Int) 5 0).bind fun bt170 => ((bits_Unpack.f k ([] : List Int) 16777217 0).bind fun bt174 => ((bits_Pack.f k (([18446744073709551615, 5] : List Int)) 64).bind fun bt181 => (if (bt126.1.length : Int) = 0 then (if bt126.2 = 0 then (if bt130.2 = 15 then (if bt134.2 = 15 then (if bt138.2 = 1 then (if bt145.2 = 10 then (if bt152.2 = 11 then (if bt159.2 = 12 then (if bt166.2 = 0 then (if (bt166.1.length : Int) = 1 then (if 0 < (bt166.1.length : Int) then (if (rd bt166.1 0) = 3 then (if (bt170.1.length : Int) = 5 then (if bt170.2 = 0 then (if bt174.2 = 1 then (if (bt181.1.length : Int) = 16 then (if bt181.2 = 0 then ((bits_Width.f k ([] : List Int)).bind fun t186 => (if t186 = 0 then ((bits_Width.f k (([9223372036854775808] : List Int))).bind fun t190 => (if t190 = 64 then ((bits_Size.f 3 3).bind fun t191 => (if t191 = 2 then ((bits_Size.f (-1) 3).bind fun t192 => (if t192 = 0 then ((bits_Size.f 16777217 1).bind fun t193 => (if t193 = 0 then ((columbariumlaw3_known.f k).bind fun t194 => (some t194)) else (some false))) else (some false))) else (some false))) else (some false))) else (some false))) else (some false)) else (some false)) else (some false)) else (some false)) else (some false)) else (some false)) else (none)) else (some false)) else (some false)) else (some false)) else (some false)) else (some false)) else (some false)) else (some false)) else (some false)) else (some false)) else (some false))))))))))))) = some r := by first | (rw [hy123]; with_reducible exact H) | (have H2_ := (Option.bind_some _ _).symm.trans H; rw [hy123]; with_reducible exact H2_) | (have H2_ := (Option.bind_some _ _).symm.trans H; with_reducible exact H2_) | with_reducible exact H | (rw [hy123]; exact H) | exact H
  have Ny123 := Aside0.mk hy123
  clear hy123
  replace H := Option.bind_eq_some_iff.mp H
  obtain ⟨⟨t126, t127⟩, A10, H⟩ := H
  replace H : ((bits_Pack.f k ([] : List Int) 65).bind fun bt130 => ((bits_Unpack.f k ([] : List Int) 0 (-1)).bind fun bt134 => ((bits_Unpack.f k ([] : List Int) (-1) 3).bind fun bt138 => ((bits_Unpack.f k (([1] : List Int)) 3 4).bind fun bt145 => ((bits_Unpack.f k (([1, 0, 0] : List Int)) 3 4).bind fun bt152 => ((bits_Unpack.f k (([255] : List Int)) 1 2).bind fun bt159 => ((bits_Unpack.f k (([3] : List Int)) 1 2).bind fun bt166 => ((bits_Unpack.f k ([] : List Int) 5 0).bind fun bt170 => ((bits_Unpack.f k ([] : List Int) 16777217 0).bind fun bt174 => ((bits_Pack.f k (([18446744073709551615, 5] : List Int)) 64).bind fun bt181 => (if (t126.length : Int) = 0 then (if t127 = 0 then (if bt130.2 = 15 then (if bt134.2 = 15 then (if bt138.2 = 1 then (if bt145.2 = 10 then (if bt152.2 = 11 then (if bt159.2 = 12 then (if bt166.2 = 0 then (if (bt166.1.length : Int) = 1 then (if 0 < (bt166.1.length : Int) then (if (rd bt166.1 0) = 3 then (if (bt170.1.length : Int) = 5 then (if bt170.2 = 0 then (if bt174.2 = 1 then (if (bt181.1.length : Int) = 16 then (if bt181.2 = 0 then ((bits_Width.f k ([] : List Int)).bind fun t186 => (if t186 = 0 then ((bits_Width.f k (([9223372036854775808] : List Int))).bind fun t190 => (if t190 = 64 then ((bits_Size.f 3 3).bind fun t191 => (if t191 = 2 then ((bits_Size.f (-1) 3).bind fun t192 => (if t192 = 0 then ((bits_Size.f 16777217 1).bind fun t193 => (if t193 = 0 then ((columbariumlaw3_known.f k).bind fun t194 => (some t194)) else (some false))) else (some false))) else (some false))) else (some false))) else (some false))) else (some false)) else (some false)) else (some false)) else (some false)) else (some false)) else (some false)) else (none)) else (some false)) else (some false)) else (some false)) else (some false)) else (some false)) else (some false)) else (some false)) else (some false)) else (some false)) else (some false)))))))))))) = some r := H
  have A1 := Aside0.mk A10
  clear A10
  replace H := Option.bind_eq_some_iff.mp H
  obtain ⟨⟨t130, t131⟩, A20, H⟩ := H
  replace H : ((bits_Unpack.f k ([] : List Int) 0 (-1)).bind fun bt134 => ((bits_Unpack.f k ([] : List Int) (-1) 3).bind fun bt138 => ((bits_Unpack.f k (([1] : List Int)) 3 4).bind fun bt145 => ((bits_Unpack.f k (([1, 0, 0] : List Int)) 3 4).bind fun bt152 => ((bits_Unpack.f k (([255] : List Int)) 1 2).bind fun bt159 => ((bits_Unpack.f k (([3] : List Int)) 1 2).bind fun bt166 => ((bits_Unpack.f k ([] : List Int) 5 0).bind fun bt170 => ((bits_Unpack.f k ([] : List Int) 16777217 0).bind fun bt174 => ((bits_Pack.f k (([18446744073709551615, 5] : List Int)) 64).bind fun bt181 => (if (t126.length : Int) = 0 then (if t127 = 0 then (if t131 = 15 then (if bt134.2 = 15 then (if bt138.2 = 1 then (if bt145.2 = 10 then (if bt152.2 = 11 then (if bt159.2 = 12 then (if bt166.2 = 0 then (if (bt166.1.length : Int) = 1 then (if 0 < (bt166.1.length : Int) then (if (rd bt166.1 0) = 3 then (if (bt170.1.length : Int) = 5 then (if bt170.2 = 0 then (if bt174.2 = 1 then (if (bt181.1.length : Int) = 16 then (if bt181.2 = 0 then ((bits_Width.f k ([] : List Int)).bind fun t186 => (if t186 = 0 then ((bits_Width.f k (([9223372036854775808] : List Int))).bind fun t190 => (if t190 = 64 then ((bits_Size.f 3 3).bind fun t191 => (if t191 = 2 then ((bits_Size.f (-1) 3).bind fun t192 => (if t192 = 0 then ((bits_Size.f 16777217 1).bind fun t193 => (if t193 = 0 then ((columbariumlaw3_known.f k).bind fun t194 => (some t194)) else (some false))) else (some false))) else (some false))) else (some false))) else (some false))) else (some false)) else (some false)) else (some false)) else (some false)) else (some false)) else (some false)) else (none)) else (some false)) else (some false)) else (some false)) else (some false)) else (some false)) else (some false)) else (some false)) else (some false)) else (some false)) else (some false))))))))))) = some r := H
  have A2 := Aside0.mk A20
  clear A20
  replace H := Option.bind_eq_some_iff.mp H
  obtain ⟨⟨t134, t135⟩, A30, H⟩ := H
  replace H : ((bits_Unpack.f k ([] : List Int) (-1) 3).bind fun bt138 => ((bits_Unpack.f k (([1] : List Int)) 3 4).bind fun bt145 => ((bits_Unpack.f k (([1, 0, 0] : List Int)) 3 4).bind fun bt152 => ((bits_Unpack.f k (([255] : List Int)) 1 2).bind fun bt159 => ((bits_Unpack.f k (([3] : List Int)) 1 2).bind fun bt166 => ((bits_Unpack.f k ([] : List Int) 5 0).bind fun bt170 => ((bits_Unpack.f k ([] : List Int) 16777217 0).bind fun bt174 => ((bits_Pack.f k (([18446744073709551615, 5] : List Int)) 64).bind fun bt181 => (if (t126.length : Int) = 0 then (if t127 = 0 then (if t131 = 15 then (if t135 = 15 then (if bt138.2 = 1 then (if bt145.2 = 10 then (if bt152.2 = 11 then (if bt159.2 = 12 then (if bt166.2 = 0 then (if (bt166.1.length : Int) = 1 then (if 0 < (bt166.1.length : Int) then (if (rd bt166.1 0) = 3 then (if (bt170.1.length : Int) = 5 then (if bt170.2 = 0 then (if bt174.2 = 1 then (if (bt181.1.length : Int) = 16 then (if bt181.2 = 0 then ((bits_Width.f k ([] : List Int)).bind fun t186 => (if t186 = 0 then ((bits_Width.f k (([9223372036854775808] : List Int))).bind fun t190 => (if t190 = 64 then ((bits_Size.f 3 3).bind fun t191 => (if t191 = 2 then ((bits_Size.f (-1) 3).bind fun t192 => (if t192 = 0 then ((bits_Size.f 16777217 1).bind fun t193 => (if t193 = 0 then ((columbariumlaw3_known.f k).bind fun t194 => (some t194)) else (some false))) else (some false))) else (some false))) else (some false))) else (some false))) else (some false)) else (some false)) else (some false)) else (some false)) else (some false)) else (some false)) else (none)) else (some false)) else (some false)) else (some false)) else (some false)) else (some false)) else (some false)) else (some false)) else (some false)) else (some false)) else (some false)))))))))) = some r := H
  have A3 := Aside0.mk A30
  clear A30
  replace H := Option.bind_eq_some_iff.mp H
  obtain ⟨⟨t138, t139⟩, A40, H⟩ := H
  replace H : ((bits_Unpack.f k (([1] : List Int)) 3 4).bind fun bt145 => ((bits_Unpack.f k (([1, 0, 0] : List Int)) 3 4).bind fun bt152 => ((bits_Unpack.f k (([255] : List Int)) 1 2).bind fun bt159 => ((bits_Unpack.f k (([3] : List Int)) 1 2).bind fun bt166 => ((bits_Unpack.f k ([] : List Int) 5 0).bind fun bt170 => ((bits_Unpack.f k ([] : List Int) 16777217 0).bind fun bt174 => ((bits_Pack.f k (([18446744073709551615, 5] : List Int)) 64).bind fun bt181 => (if (t126.length : Int) = 0 then (if t127 = 0 then (if t131 = 15 then (if t135 = 15 then (if t139 = 1 then (if bt145.2 = 10 then (if bt152.2 = 11 then (if bt159.2 = 12 then (if bt166.2 = 0 then (if (bt166.1.length : Int) = 1 then (if 0 < (bt166.1.length : Int) then (if (rd bt166.1 0) = 3 then (if (bt170.1.length : Int) = 5 then (if bt170.2 = 0 then (if bt174.2 = 1 then (if (bt181.1.length : Int) = 16 then (if bt181.2 = 0 then ((bits_Width.f k ([] : List Int)).bind fun t186 => (if t186 = 0 then ((bits_Width.f k (([9223372036854775808] : List Int))).bind fun t190 => (if t190 = 64 then ((bits_Size.f 3 3).bind fun t191 => (if t191 = 2 then ((bits_Size.f (-1) 3).bind fun t192 => (if t192 = 0 then ((bits_Size.f 16777217 1).bind fun t193 => (if t193 = 0 then ((columbariumlaw3_known.f k).bind fun t194 => (some t194)) else (some false))) else (some false))) else (some false))) else (some false))) else (some false))) else (some false)) else (some false)) else (some false)) else (some false)) else (some false)) else (some false)) else (none)) else (some false)) else (some false)) else (some false)) else (some false)) else (some false)) else (some false)) else (some false)) else (some false)) else (some false)) else (some false))))))))) = some r := H
  have A4 := Aside0.mk A40
  clear A40
  obtain ⟨y142, hy142⟩ : ∃ y_ : List Int, y_ = (([1] : List Int)) := ⟨_, rfl⟩
  replace H : ((bits_Unpack.f k y142 3 4).bind fun bt145 => ((bits_Unpack.f k (([1, 0, 0] : List Int)) 3 4).bind fun bt152 => ((bits_Unpack.f k (([255] : List Int)) 1 2).bind fun bt159 => ((bits_Unpack.f k (([3] : List Int)) 1 2).bind fun bt166 => ((bits_Unpack.f k ([] : List Int) 5 0).bind fun bt170 => ((bits_Unpack.f k ([] : List Int) 16777217 0).bind fun bt174 => ((bits_Pack.f k (([18446744073709551615, 5] : List Int)) 64).bind fun bt181 => (if (t126.length : Int) = 0 then (if t127 = 0 then (if t131 = 15 then (if t135 = 15 then (if t139 = 1 then (if bt145.2 = 10 then (if bt152.2 = 11 then (if bt159.2 = 12 then (if bt166.2 = 0 then (if (bt166.1.length : Int) = 1 then (if 0 < (bt166.1.length : Int) then (if (rd bt166.1 0) = 3 then (if (bt170.1.length : Int) = 5 then (if bt170.2 = 0 then (if bt174.2 = 1 then (if (bt181.1.length : Int) = 16 then (if bt181.2 = 0 then ((bits_Width.f k ([] : List Int)).bind fun t186 => (if t186 = 0 then ((bits_Width.f k (([9223372036854775808] : List Int))).bind fun t190 => (if t190 = 64 then ((bits_Size.f 3 3).bind fun t191 => (if t191 = 2 then ((bits_Size.f (-1) 3).bind fun t192 => (if t192 = 0 then ((bits_Size.f 16777217 1).bind fun t193 => (if t193 = 0 then ((columbariumlaw3_known.f k).bind fun t194 => (some t194)) else (some false))) else (some false))) else (some false))) else (some false))) else (some false))) else (some false)) else (some false)) else (some false)) else (some false)) else (some false)) else (some false)) else (none)) else (some false)) else (some false)) else (some false)) else (some false)) else (some false)) else (some false)) else (some false)) else (some false)) else (some false)) else (some false))))))))) = some r := by first | (rw [hy142]; with_reducible exact H) | (have H2_ := (Option.bind_some _ _).symm.trans H; rw [hy142]; with_reducible exact H2_) | (have H2_ := (Option.bind_some _ _).symm.trans H; with_reducible exact H2_) | with_reducible exact H | (rw [hy142]; exact H) | exact H
  have Ny142 := Aside0.mk hy142
  clear hy142
  replace H := Option.bind_eq_some_iff.mp H
  obtain ⟨⟨t145, t146⟩, A50, H⟩ := H
  replace H : ((bits_Unpack.f k (([1, 0, 0] : List Int)) 3 4).bind fun bt152 => ((bits_Unpack.f k (([255] : List Int)) 1 2).bind fun bt159 => ((bits_Unpack.f k (([3] : List Int)) 1 2).bind fun bt166 => ((bits_Unpack.f k ([] : List Int) 5 0).bind fun bt170 => ((bits_Unpack.f k ([] : List Int) 16777217 0).bind fun bt174 => ((bits_Pack.f k (([18446744073709551615, 5] : List Int)) 64).bind fun bt181 => (if (t126.length : Int) = 0 then (if t127 = 0 then (if t131 = 15 then (if t135 = 15 then (if t139 = 1 then (if t146 = 10 then (if bt152.2 = 11 then (if bt159.2 = 12 then (if bt166.2 = 0 then (if (bt166.1.length : Int) = 1 then (if 0 < (bt166.1.length : Int) then (if (rd bt166.1 0) = 3 then (if (bt170.1.length : Int) = 5 then (if bt170.2 = 0 then (if bt174.2 = 1 then (if (bt181.1.length : Int) = 16 then (if bt181.2 = 0 then ((bits_Width.f k ([] : List Int)).bind fun t186 => (if t186 = 0 then ((bits_Width.f k (([9223372036854775808] : List Int))).bind fun t190 => (if t190 = 64 then ((bits_Size.f 3 3).bind fun t191 => (if t191 = 2 then ((bits_Size.f (-1) 3).bind fun t192 => (if t192 = 0 then ((bits_Size.f 16777217 1).bind fun t193 => (if t193 = 0 then ((columbariumlaw3_known.f k).bind fun t194 => (some t194)) else (some false))) else (some false))) else (some false))) else (some false))) else (some false))) else (some false)) else (some false)) else (some false)) else (some false)) else (some false)) else (some false)) else (none)) else (some false)) else (some false)) else (some false)) else (some false)) else (some false)) else (some false)) else (some false)) else (some false)) else (some false)) else (some false)))))))) = some r := H
  have A5 := Aside0.mk A50
  clear A50
  obtain ⟨y149, hy149⟩ : ∃ y_ : List Int, y_ = (([1, 0, 0] : List Int)) := ⟨_, rfl⟩
  replace H : ((bits_Unpack.f k y149 3 4).bind fun bt152 => ((bits_Unpack.f k (([255] : List Int)) 1 2).bind fun bt159 => ((bits_Unpack.f k (([3] : List Int)) 1 2).bind fun bt166 => ((bits_Unpack.f k ([] : List Int) 5 0).bind fun bt170 => ((bits_Unpack.f k ([] : List Int) 16777217 0).bind fun bt174 => ((bits_Pack.f k (([18446744073709551615, 5] : List Int)) 64).bind fun bt181 => (if (t126.length : Int) = 0 then (if t127 = 0 then (if t131 = 15 then (if t135 = 15 then (if t139 = 1 then (if t146 = 10 then (if bt152.2 = 11 then (if bt159.2 = 12 then (if bt166.2 = 0 then (if (bt166.1.length : Int) = 1 then (if 0 < (bt166.1.length : Int) then (if (rd bt166.1 0) = 3 then (if (bt170.1.length : Int) = 5 then (if bt170.2 = 0 then (if bt174.2 = 1 then (if (bt181.1.length : Int) = 16 then (if bt181.2 = 0 then ((bits_Width.f k ([] : List Int)).bind fun t186 => (if t186 = 0 then ((bits_Width.f k (([9223372036854775808] : List Int))).bind fun t190 => (if t190 = 64 then ((bits_Size.f 3 3).bind fun t191 => (if t191 = 2 then ((bits_Size.f (-1) 3).bind fun t192 => (if t192 = 0 then ((bits_Size.f 16777217 1).bind fun t193 => (if t193 = 0 then ((columbariumlaw3_known.f k).bind fun t194 => (some t194)) else (some false))) else (some false))) else (some false))) else (some false))) else (some false))) else (some false)) else (some false)) else (some false)) else (some false)) else (some false)) else (some false)) else (none)) else (some false)) else (some false)) else (some false)) else (some false)) else (some false)) else (some false)) else (some false)) else (some false)) else (some false)) else (some false)))))))) = some r := by first | (rw [hy149]; with_reducible exact H) | (have H2_ := (Option.bind_some _ _).symm.trans H; rw [hy149]; with_reducible exact H2_) | (have H2_ := (Option.bind_some _ _).symm.trans H; with_reducible exact H2_) | with_reducible exact H | (rw [hy149]; exact H) | exact H
  have Ny149 := Aside0.mk hy149
  clear hy149
  replace H := Option.bind_eq_some_iff.mp H
  obtain ⟨⟨t152, t153⟩, A60, H⟩ := H
  replace H : ((bits_Unpack.f k (([255] : List Int)) 1 2).bind fun bt159 => ((bits_Unpack.f k (([3] : List Int)) 1 2).bind fun bt166 => ((bits_Unpack.f k ([] : List Int) 5 0).bind fun bt170 => ((bits_Unpack.f k ([] : List Int) 16777217 0).bind fun bt174 => ((bits_Pack.f k (([18446744073709551615, 5] : List Int)) 64).bind fun bt181 => (if (t126.length : Int) = 0 then (if t127 = 0 then (if t131 = 15 then (if t135 = 15 then (if t139 = 1 then (if t146 = 10 then (if t153 = 11 then (if bt159.2 = 12 then (if bt166.2 = 0 then (if (bt166.1.length : Int) = 1 then (if 0 < (bt166.1.length : Int) then (if (rd bt166.1 0) = 3 then (if (bt170.1.length : Int) = 5 then (if bt170.2 = 0 then (if bt174.2 = 1 then (if (bt181.1.length : Int) = 16 then (if bt181.2 = 0 then ((bits_Width.f k ([] : List Int)).bind fun t186 => (if t186 = 0 then ((bits_Width.f k (([9223372036854775808] : List Int))).bind fun t190 => (if t190 = 64 then ((bits_Size.f 3 3).bind fun t191 => (if t191 = 2 then ((bits_Size.f (-1) 3).bind fun t192 => (if t192 = 0 then ((bits_Size.f 16777217 1).bind fun t193 => (if t193 = 0 then ((columbariumlaw3_known.f k).bind fun t194 => (some t194)) else (some false))) else (some false))) else (some false))) else (some false))) else (some false))) else (some false)) else (some false)) else (some false)) else (some false)) else (some false)) else (some false)) else (none)) else (some false)) else (some false)) else (some false)) else (some false)) else (some false)) else (some false)) else (some false)) else (some false)) else (some false)) else (some false))))))) = some r := H
  have A6 := Aside0.mk A60
  clear A60
  obtain ⟨y156, hy156⟩ : ∃ y_ : List Int, y_ = (([255] : List Int)) := ⟨_, rfl⟩
  replace H : ((bits_Unpack.f k y156 1 2).bind fun bt159 => ((bits_Unpack.f k (([3] : List Int)) 1 2).bind fun bt166 => ((bits_Unpack.f k ([] : List Int) 5 0).bind fun bt170 => ((bits_Unpack.f k ([] : List Int) 16777217 0).bind fun bt174 => ((bits_Pack.f k (([18446744073709551615, 5] : List Int)) 64).bind fun bt181 => (if (t126.length : Int) = 0 then (if t127 = 0 then (if t131 = 15 then (if t135 = 15 then (if t139 = 1 then (if t146 = 10 then (if t153 = 11 then (if bt159.2 = 12 then (if bt166.2 = 0 then (if (bt166.1.length : Int) = 1 then (if 0 < (bt166.1.length : Int) then (if (rd bt166.1 0) = 3 then (if (bt170.1.length : Int) = 5 then (if bt170.2 = 0 then (if bt174.2 = 1 then (if (bt181.1.length : Int) = 16 then (if bt181.2 = 0 then ((bits_Width.f k ([] : List Int)).bind fun t186 => (if t186 = 0 then ((bits_Width.f k (([9223372036854775808] : List Int))).bind fun t190 => (if t190 = 64 then ((bits_Size.f 3 3).bind fun t191 => (if t191 = 2 then ((bits_Size.f (-1) 3).bind fun t192 => (if t192 = 0 then ((bits_Size.f 16777217 1).bind fun t193 => (if t193 = 0 then ((columbariumlaw3_known.f k).bind fun t194 => (some t194)) else (some false))) else (some false))) else (some false))) else (some false))) else (some false))) else (some false)) else (some false)) else (some false)) else (some false)) else (some false)) else (some false)) else (none)) else (some false)) else (some false)) else (some false)) else (some false)) else (some false)) else (some false)) else (some false)) else (some false)) else (some false)) else (some false))))))) = some r := by first | (rw [hy156]; with_reducible exact H) | (have H2_ := (Option.bind_some _ _).symm.trans H; rw [hy156]; with_reducible exact H2_) | (have H2_ := (Option.bind_some _ _).symm.trans H; with_reducible exact H2_) | with_reducible exact H | (rw [hy156]; exact H) | exact H
  have Ny156 := Aside0.mk hy156
  clear hy156
  replace H := Option.bind_eq_some_iff.mp H
  obtain ⟨⟨t159, t160⟩, A70, H⟩ := H
  replace H : ((bits_Unpack.f k (([3] : List Int)) 1 2).bind fun bt166 => ((bits_Unpack.f k ([] : List Int) 5 0).bind fun bt170 => ((bits_Unpack.f k ([] : List Int) 16777217 0).bind fun bt174 => ((bits_Pack.f k (([18446744073709551615, 5] : List Int)) 64).bind fun bt181 => (if (t126.length : Int) = 0 then (if t127 = 0 then (if t131 = 15 then (if t135 = 15 then (if t139 = 1 then (if t146 = 10 then (if t153 = 11 then (if t160 = 12 then (if bt166.2 = 0 then (if (bt166.1.length : Int) = 1 then (if 0 < (bt166.1.length : Int) then (if (rd bt166.1 0) = 3 then (if (bt170.1.length : Int) = 5 then (if bt170.2 = 0 then (if bt174.2 = 1 then (if (bt181.1.length : Int) = 16 then (if bt181.2 = 0 then ((bits_Width.f k ([] : List Int)).bind fun t186 => (if t186 = 0 then ((bits_Width.f k (([9223372036854775808] : List Int))).bind fun t190 => (if t190 = 64 then ((bits_Size.f 3 3).bind fun t191 => (if t191 = 2 then ((bits_Size.f (-1) 3).bind fun t192 => (if t192 = 0 then ((bits_Size.f 16777217 1).bind fun t193 => (if t193 = 0 then ((columbariumlaw3_known.f k).bind fun t194 => (some t194)) else (some false))) else (some false))) else (some false))) else (some false))) else (some false))) else (some false)) else (some false)) else (some false)) else (some false)) else (some false)) else (some false)) else (none)) else (some false)) else (some false)) else (some false)) else (some false)) else (some false)) else (some false)) else (some false)) else (some false)) else (some false)) else (some false)))))) = some r := H
  have A7 := Aside0.mk A70
  clear A70
  obtain ⟨y163, hy163⟩ : ∃ y_ : List Int, y_ = (([3] : List Int)) := ⟨_, rfl⟩
  replace H : ((bits_Unpack.f k y163 1 2).bind fun bt166 => ((bits_Unpack.f k ([] : List Int) 5 0).bind fun bt170 => ((bits_Unpack.f k ([] : List Int) 16777217 0).bind fun bt174 => ((bits_Pack.f k (([18446744073709551615, 5] : List Int)) 64).bind fun bt181 => (if (t126.length : Int) = 0 then (if t127 = 0 then (if t131 = 15 then (if t135 = 15 then (if t139 = 1 then (if t146 = 10 then (if t153 = 11 then (if t160 = 12 then (if bt166.2 = 0 then (if (bt166.1.length : Int) = 1 then (if 0 < (bt166.1.length : Int) then (if (rd bt166.1 0) = 3 then (if (bt170.1.length : Int) = 5 then (if bt170.2 = 0 then (if bt174.2 = 1 then (if (bt181.1.length : Int) = 16 then (if bt181.2 = 0 then ((bits_Width.f k ([] : List Int)).bind fun t186 => (if t186 = 0 then ((bits_Width.f k (([9223372036854775808] : List Int))).bind fun t190 => (if t190 = 64 then ((bits_Size.f 3 3).bind fun t191 => (if t191 = 2 then ((bits_Size.f (-1) 3).bind fun t192 => (if t192 = 0 then ((bits_Size.f 16777217 1).bind fun t193 => (if t193 = 0 then ((columbariumlaw3_known.f k).bind fun t194 => (some t194)) else (some false))) else (some false))) else (some false))) else (some false))) else (some false))) else (some false)) else (some false)) else (some false)) else (some false)) else (some false)) else (some false)) else (none)) else (some false)) else (some false)) else (some false)) else (some false)) else (some false)) else (some false)) else (some false)) else (some false)) else (some false)) else (some false)))))) = some r := by first | (rw [hy163]; with_reducible exact H) | (have H2_ := (Option.bind_some _ _).symm.trans H; rw [hy163]; with_reducible exact H2_) | (have H2_ := (Option.bind_some _ _).symm.trans H; with_reducible exact H2_) | with_reducible exact H | (rw [hy163]; exact H) | exact H
  have Ny163 := Aside0.mk hy163
  clear hy163
  replace H := Option.bind_eq_some_iff.mp H
  obtain ⟨⟨t166, t167⟩, A80, H⟩ := H
  replace H : ((bits_Unpack.f k ([] : List Int) 5 0).bind fun bt170 => ((bits_Unpack.f k ([] : List Int) 16777217 0).bind fun bt174 => ((bits_Pack.f k (([18446744073709551615, 5] : List Int)) 64).bind fun bt181 => (if (t126.length : Int) = 0 then (if t127 = 0 then (if t131 = 15 then (if t135 = 15 then (if t139 = 1 then (if t146 = 10 then (if t153 = 11 then (if t160 = 12 then (if t167 = 0 then (if (t166.length : Int) = 1 then (if 0 < (t166.length : Int) then (if (rd t166 0) = 3 then (if (bt170.1.length : Int) = 5 then (if bt170.2 = 0 then (if bt174.2 = 1 then (if (bt181.1.length : Int) = 16 then (if bt181.2 = 0 then ((bits_Width.f k ([] : List Int)).bind fun t186 => (if t186 = 0 then ((bits_Width.f k (([9223372036854775808] : List Int))).bind fun t190 => (if t190 = 64 then ((bits_Size.f 3 3).bind fun t191 => (if t191 = 2 then ((bits_Size.f (-1) 3).bind fun t192 => (if t192 = 0 then ((bits_Size.f 16777217 1).bind fun t193 => (if t193 = 0 then ((columbariumlaw3_known.f k).bind fun t194 => (some t194)) else (some false))) else (some false))) else (some false))) else (some false))) else (some false))) else (some false)) else (some false)) else (some false)) else (some false)) else (some false)) else (some false)) else (none)) else (some false)) else (some false)) else (some false)) else (some false)) else (some false)) else (some false)) else (some false)) else (some false)) else (some false)) else (some false))))) = some r := H
  have A8 := Aside0.mk A80
  clear A80
  replace H := Option.bind_eq_some_iff.mp H
  obtain ⟨⟨t170, t171⟩, A90, H⟩ := H
  replace H : ((bits_Unpack.f k ([] : List Int) 16777217 0).bind fun bt174 => ((bits_Pack.f k (([18446744073709551615, 5] : List Int)) 64).bind fun bt181 => (if (t126.length : Int) = 0 then (if t127 = 0 then (if t131 = 15 then (if t135 = 15 then (if t139 = 1 then (if t146 = 10 then (if t153 = 11 then (if t160 = 12 then (if t167 = 0 then (if (t166.length : Int) = 1 then (if 0 < (t166.length : Int) then (if (rd t166 0) = 3 then (if (t170.length : Int) = 5 then (if t171 = 0 then (if bt174.2 = 1 then (if (bt181.1.length : Int) = 16 then (if bt181.2 = 0 then ((bits_Width.f k ([] : List Int)).bind fun t186 => (if t186 = 0 then ((bits_Width.f k (([9223372036854775808] : List Int))).bind fun t190 => (if t190 = 64 then ((bits_Size.f 3 3).bind fun t191 => (if t191 = 2 then ((bits_Size.f (-1) 3).bind fun t192 => (if t192 = 0 then ((bits_Size.f 16777217 1).bind fun t193 => (if t193 = 0 then ((columbariumlaw3_known.f k).bind fun t194 => (some t194)) else (some false))) else (some false))) else (some false))) else (some false))) else (some false))) else (some false)) else (some false)) else (some false)) else (some false)) else (some false)) else (some false)) else (none)) else (some false)) else (some false)) else (some false)) else (some false)) else (some false)) else (some false)) else (some false)) else (some false)) else (some false)) else (some false)))) = some r := H
  have A9 := Aside0.mk A90
  clear A90
  replace H := Option.bind_eq_some_iff.mp H
  obtain ⟨⟨t174, t175⟩, A100, H⟩ := H
  replace H : ((bits_Pack.f k (([18446744073709551615, 5] : List Int)) 64).bind fun bt181 => (if (t126.length : Int) = 0 then (if t127 = 0 then (if t131 = 15 then (if t135 = 15 then (if t139 = 1 then (if t146 = 10 then (if t153 = 11 then (if t160 = 12 then (if t167 = 0 then (if (t166.length : Int) = 1 then (if 0 < (t166.length : Int) then (if (rd t166 0) = 3 then (if (t170.length : Int) = 5 then (if t171 = 0 then (if t175 = 1 then (if (bt181.1.length : Int) = 16 then (if bt181.2 = 0 then ((bits_Width.f k ([] : List Int)).bind fun t186 => (if t186 = 0 then ((bits_Width.f k (([9223372036854775808] : List Int))).bind fun t190 => (if t190 = 64 then ((bits_Size.f 3 3).bind fun t191 => (if t191 = 2 then ((bits_Size.f (-1) 3).bind fun t192 => (if t192 = 0 then ((bits_Size.f 16777217 1).bind fun t193 => (if t193 = 0 then ((columbariumlaw3_known.f k).bind fun t194 => (some t194)) else (some false))) else (some false))) else (some false))) else (some false))) else (some false))) else (some false)) else (some false)) else (some false)) else (some false)) else (some false)) else (some false)) else (none)) else (some false)) else (some false)) else (some false)) else (some false)) else (some false)) else (some false)) else (some false)) else (some false)) else (some false)) else (some false))) = some r := H
  have A10 := Aside0.mk A100
  clear A100
  obtain ⟨y178, hy178⟩ : ∃ y_ : List Int, y_ = (([18446744073709551615, 5] : List Int)) := ⟨_, rfl⟩
  replace H : ((bits_Pack.f k y178 64).bind fun bt181 => (if (t126.length : Int) = 0 then (if t127 = 0 then (if t131 = 15 then (if t135 = 15 then (if t139 = 1 then (if t146 = 10 then (if t153 = 11 then (if t160 = 12 then (if t167 = 0 then (if (t166.length : Int) = 1 then (if 0 < (t166.length : Int) then (if (rd t166 0) = 3 then (if (t170.length : Int) = 5 then (if t171 = 0 then (if t175 = 1 then (if (bt181.1.length : Int) = 16 then (if bt181.2 = 0 then ((bits_Width.f k ([] : List Int)).bind fun t186 => (if t186 = 0 then ((bits_Width.f k (([9223372036854775808] : List Int))).bind fun t190 => (if t190 = 64 then ((bits_Size.f 3 3).bind fun t191 => (if t191 = 2 then ((bits_Size.f (-1) 3).bind fun t192 => (if t192 = 0 then ((bits_Size.f 16777217 1).bind fun t193 => (if t193 = 0 then ((columbariumlaw3_known.f k).bind fun t194 => (some t194)) else (some false))) else (some false))) else (some false))) else (some false))) else (some false))) else (some false)) else (some false)) else (some false)) else (some false)) else (some false)) else (some false)) else (none)) else (some false)) else (some false)) else (some false)) else (some false)) else (some false)) else (some false)) else (some false)) else (some false)) else (some false)) else (some false))) = some r := by first | (rw [hy178]; with_reducible exact H) | (have H2_ := (Option.bind_some _ _).symm.trans H; rw [hy178]; with_reducible exact H2_) | (have H2_ := (Option.bind_some _ _).symm.trans H; with_reducible exact H2_) | with_reducible exact H | (rw [hy178]; exact H) | exact H
  have Ny178 := Aside0.mk hy178
  clear hy178
  replace H := Option.bind_eq_some_iff.mp H
  obtain ⟨⟨t181, t182⟩, A110, H⟩ := H
  replace H : (if (t126.length : Int) = 0 then (if t127 = 0 then (if t131 = 15 then (if t135 = 15 then (if t139 = 1 then (if t146 = 10 then (if t153 = 11 then (if t160 = 12 then (if t167 = 0 then (if (t166.length : Int) = 1 then (if 0 < (t166.length : Int) then (if (rd t166 0) = 3 then (if (t170.length : Int) = 5 then (if t171 = 0 then (if t175 = 1 then (if (t181.length : Int) = 16 then (if t182 = 0 then ((bits_Width.f k ([] : List Int)).bind fun t186 => (if t186 = 0 then ((bits_Width.f k (([9223372036854775808] : List Int))).bind fun t190 => (if t190 = 64 then ((bits_Size.f 3 3).bind fun t191 => (if t191 = 2 then ((bits_Size.f (-1) 3).bind fun t192 => (if t192 = 0 then ((bits_Size.f 16777217 1).bind fun t193 => (if t193 = 0 then ((columbariumlaw3_known.f k).bind fun t194 => (some t194)) else (some false))) else (some false))) else (some false))) else (some false))) else (some false))) else (some false)) else (some false)) else (some false)) else (some false)) else (some false)) else (some false)) else (none)) else (some false)) else (some false)) else (some false)) else (some false)) else (some false)) else (some false)) else (some false)) else (some false)) else (some false)) else (some false)) = some r := H
  have A11 := Aside0.mk A110
  clear A110
  by_cases c12 : (t126.length : Int) = 0
  · rw [if_pos c12] at H
    have c12b0 : ((t126.length : Int) == 0) = true := beq_iff_eq.mpr c12
    have c12b1 : ((t126.length : Int) != 0) = false := bne_eq_false_iff_eq.mpr c12
    clear c12
    by_cases c13 : t127 = 0
    · rw [if_pos c13] at H
      have c13b0 : (t127 == 0) = true := beq_iff_eq.mpr c13
      have c13b1 : (t127 != 0) = false := bne_eq_false_iff_eq.mpr c13
      clear c13
      by_cases c14 : t131 = 15
      · rw [if_pos c14] at H
        have c14b0 : (t131 == 15) = true := beq_iff_eq.mpr c14
        have c14b1 : (t131 != 15) = false := bne_eq_false_iff_eq.mpr c14
        clear c14
        by_cases c15 : t135 = 15
        · rw [if_pos c15] at H
          have c15b0 : (t135 == 15) = true := beq_iff_eq.mpr c15
          have c15b1 : (t135 != 15) = false := bne_eq_false_iff_eq.mpr c15
          clear c15
          by_cases c16 : t139 = 1
          · rw [if_pos c16] at H
            have c16b0 : (t139 == 1) = true := beq_iff_eq.mpr c16
            have c16b1 : (t139 != 1) = false := bne_eq_false_iff_eq.mpr c16
            clear c16
            by_cases c17 : t146 = 10
            · rw [if_pos c17] at H
              have c17b0 : (t146 == 10) = true := beq_iff_eq.mpr c17
              have c17b1 : (t146 != 10) = false := bne_eq_false_iff_eq.mpr c17
              clear c17
              by_cases c18 : t153 = 11
              · rw [if_pos c18] at H
                have c18b0 : (t153 == 11) = true := beq_iff_eq.mpr c18
                have c18b1 : (t153 != 11) = false := bne_eq_false_iff_eq.mpr c18
                clear c18
                by_cases c19 : t160 = 12
                · rw [if_pos c19] at H
                  have c19b0 : (t160 == 12) = true := beq_iff_eq.mpr c19
                  have c19b1 : (t160 != 12) = false := bne_eq_false_iff_eq.mpr c19
                  clear c19
                  by_cases c20 : t167 = 0
                  · rw [if_pos c20] at H
                    have c20b0 : (t167 == 0) = true := beq_iff_eq.mpr c20
                    have c20b1 : (t167 != 0) = false := bne_eq_false_iff_eq.mpr c20
                    clear c20
                    by_cases c21 : (t166.length : Int) = 1
                    · rw [if_pos c21] at H
                      have c21b0 : ((t166.length : Int) == 1) = true := beq_iff_eq.mpr c21
                      have c21b1 : ((t166.length : Int) != 1) = false := bne_eq_false_iff_eq.mpr c21
                      clear c21
                      by_cases c22 : 0 < (t166.length : Int)
                      · rw [if_pos c22] at H
                        have c22b0 : decide (0 < (t166.length : Int)) = true := decide_eq_true c22
                        have c22b1 : decide (0 < t166.length) = true := decide_eq_true (by omega)
                        clear c22
                        by_cases c23 : (rd t166 0) = 3
                        · rw [if_pos c23] at H
                          have c23b0 : ((rd t166 0) == 3) = true := beq_iff_eq.mpr c23
                          have c23b1 : ((rd t166 0) != 3) = false := bne_eq_false_iff_eq.mpr c23
                          clear c23
                          by_cases c24 : (t170.length : Int) = 5
                          · rw [if_pos c24] at H
                            have c24b0 : ((t170.length : Int) == 5) = true := beq_iff_eq.mpr c24
                            have c24b1 : ((t170.length : Int) != 5) = false := bne_eq_false_iff_eq.mpr c24
                            clear c24
                            by_cases c25 : t171 = 0
                            · rw [if_pos c25] at H
                              have c25b0 : (t171 == 0) = true := beq_iff_eq.mpr c25
                              have c25b1 : (t171 != 0) = false := bne_eq_false_iff_eq.mpr c25
                              clear c25
                              by_cases c26 : t175 = 1
                              · rw [if_pos c26] at H
                                have c26b0 : (t175 == 1) = true := beq_iff_eq.mpr c26
                                have c26b1 : (t175 != 1) = false := bne_eq_false_iff_eq.mpr c26
                                clear c26
                                by_cases c27 : (t181.length : Int) = 16
                                · rw [if_pos c27] at H
                                  have c27b0 : ((t181.length : Int) == 16) = true := beq_iff_eq.mpr c27
                                  have c27b1 : ((t181.length : Int) != 16) = false := bne_eq_false_iff_eq.mpr c27
                                  clear c27
                                  by_cases c28 : t182 = 0
                                  · rw [if_pos c28] at H
                                    have c28b0 : (t182 == 0) = true := beq_iff_eq.mpr c28
                                    have c28b1 : (t182 != 0) = false := bne_eq_false_iff_eq.mpr c28
                                    clear c28
                                    replace H := Option.bind_eq_some_iff.mp H
                                    obtain ⟨t186, A290, H⟩ := H
                                    replace H : (if t186 = 0 then ((bits_Width.f k (([9223372036854775808] : List Int))).bind fun t190 => (if t190 = 64 then ((bits_Size.f 3 3).bind fun t191 => (if t191 = 2 then ((bits_Size.f (-1) 3).bind fun t192 => (if t192 = 0 then ((bits_Size.f 16777217 1).bind fun t193 => (if t193 = 0 then ((columbariumlaw3_known.f k).bind fun t194 => (some t194)) else (some false))) else (some false))) else (some false))) else (some false))) else (some false)) = some r := H
                                    have A29 := Aside0.mk A290
                                    clear A290
                                    by_cases c30 : t186 = 0
                                    · rw [if_pos c30] at H
                                      have c30b0 : (t186 == 0) = true := beq_iff_eq.mpr c30
                                      have c30b1 : (t186 != 0) = false := bne_eq_false_iff_eq.mpr c30
                                      clear c30
                                      obtain ⟨y187, hy187⟩ : ∃ y_ : List Int, y_ = (([9223372036854775808] : List Int)) := ⟨_, rfl⟩
                                      replace H : ((bits_Width.f k y187).bind fun t190 => (if t190 = 64 then ((bits_Size.f 3 3).bind fun t191 => (if t191 = 2 then ((bits_Size.f (-1) 3).bind fun t192 => (if t192 = 0 then ((bits_Size.f 16777217 1).bind fun t193 => (if t193 = 0 then ((columbariumlaw3_known.f k).bind fun t194 => (some t194)) else (some false))) else (some false))) else (some false))) else (some false))) = some r := by first | (rw [hy187]; with_reducible exact H) | (have H2_ := (Option.bind_some _ _).symm.trans H; rw [hy187]; with_reducible exact H2_) | (have H2_ := (Option.bind_some _ _).symm.trans H; with_reducible exact H2_) | with_reducible exact H | (rw [hy187]; exact H) | exact H
                                      have Ny187 := Aside0.mk hy187
                                      clear hy187
                                      replace H := Option.bind_eq_some_iff.mp H
                                      obtain ⟨t190, A310, H⟩ := H
                                      replace H : (if t190 = 64 then ((bits_Size.f 3 3).bind fun t191 => (if t191 = 2 then ((bits_Size.f (-1) 3).bind fun t192 => (if t192 = 0 then ((bits_Size.f 16777217 1).bind fun t193 => (if t193 = 0 then ((columbariumlaw3_known.f k).bind fun t194 => (some t194)) else (some false))) else (some false))) else (some false))) else (some false)) = some r := H
                                      have A31 := Aside0.mk A310
                                      clear A310
                                      by_cases c32 : t190 = 64
                                      · rw [if_pos c32] at H
                                        have c32b0 : (t190 == 64) = true := beq_iff_eq.mpr c32
                                        have c32b1 : (t190 != 64) = false := bne_eq_false_iff_eq.mpr c32
                                        clear c32
                                        replace H := Option.bind_eq_some_iff.mp H
                                        obtain ⟨t191, A330, H⟩ := H
                                        replace H : (if t191 = 2 then ((bits_Size.f (-1) 3).bind fun t192 => (if t192 = 0 then ((bits_Size.f 16777217 1).bind fun t193 => (if t193 = 0 then ((columbariumlaw3_known.f k).bind fun t194 => (some t194)) else (some false))) else (some false))) else (some false)) = some r := H
                                        have A33 := Aside0.mk A330
                                        clear A330
                                        by_cases c34 : t191 = 2
                                        · rw [if_pos c34] at H
                                          have c34b0 : (t191 == 2) = true := beq_iff_eq.mpr c34
                                          have c34b1 : (t191 != 2) = false := bne_eq_false_iff_eq.mpr c34
                                          clear c34
                                          replace H := Option.bind_eq_some_iff.mp H
                                          obtain ⟨t192, A350, H⟩ := H
                                          replace H : (if t192 = 0 then ((bits_Size.f 16777217 1).bind fun t193 => (if t193 = 0 then ((columbariumlaw3_known.f k).bind fun t194 => (some t194)) else (some false))) else (some false)) = some r := H
                                          have A35 := Aside0.mk A350
                                          clear A350
                                          by_cases c36 : t192 = 0
                                          · rw [if_pos c36] at H
                                            have c36b0 : (t192 == 0) = true := beq_iff_eq.mpr c36
                                            have c36b1 : (t192 != 0) = false := bne_eq_false_iff_eq.mpr c36
                                            clear c36
                                            replace H := Option.bind_eq_some_iff.mp H
                                            obtain ⟨t193, A370, H⟩ := H
                                            replace H : (if t193 = 0 then ((columbariumlaw3_known.f k).bind fun t194 => (some t194)) else (some false)) = some r := H
                                            have A37 := Aside0.mk A370
                                            clear A370
                                            by_cases c38 : t193 = 0
                                            · rw [if_pos c38] at H
                                              have c38b0 : (t193 == 0) = true := beq_iff_eq.mpr c38
                                              have c38b1 : (t193 != 0) = false := bne_eq_false_iff_eq.mpr c38
                                              clear c38
                                              replace H := Option.bind_eq_some_iff.mp H
                                              obtain ⟨t194, A390, H⟩ := H
                                              replace H : (some t194) = some r := H
                                              have A39 := Aside0.mk A390
                                              clear A390
                                              obtain rfl := Option.some.inj H
                                              go_enter Try.func5, Try.ntmps5
                                              go_wp2_with (first | ((with_reducible refine gate_dst (N := 24) rfl ?_); (try (refine gate_guard (by rfl) ?_; dsimp only)); refine Kd.R_lit (Kd.int .u64) _ 29 ?hg (N := 24) ?hd (xs := ([0, 0] : List Int)) (inner := [.int .u64 0, .int .u64 0]) (ok := fun _ => True) (okp := fun _ => True) ?hr ?hp (fun _ hk => hk) trivial (Below.refl _ _) (Nat.le_refl _) (by simp) ?_; (case hd => rfl); (case hg => rfl); (case hr => first | (go_simp; done) | (go_simp; rfl)); (case hp => exact (Reps.one (show Kd.M (Kd.int .u64) _ _ _ 0 [.int .u64 0] from rfl) (Reps.one (show Kd.M (Kd.int .u64) _ _ _ 0 [.int .u64 0] from rfl) (Reps.none _ _)))); intro v124 w40 ho41 hb hg_ hnew_; clear hg_ hnew_; (first | rw [← Ny123.out] at ho41 | (simp only [Int.reduceToNat] at ho41; rw [← Ny123.out] at ho41)); have n0_ := Aside0.mk (Kd.R_lower ho41 (below_size (by repeat (first | (with_reducible first | exact HB.out | apply below_alloc | apply pw_below_drewN | apply below_drew1) | exact HB.out)))); have n1_ := Aside0.mk (below_step (by repeat (first | (with_reducible first | exact HB.out | apply below_alloc | apply pw_below_drewN | apply below_drew1) | exact HB.out)) hb); clear HB; have HO125 := n0_; have HB := n1_; clear n0_ n1_; clear hb ho41; obtain ⟨Ao42, co42, eo42⟩ := Kd.R_slice HO125.out; subst eo42) | ((with_reducible refine gate_callee (f := 11) rfl ?_); refine goesL_ (some 25) rfl rfl Try.func11 (by kernel_rfl) rfl #[.slice Ao42 y123.length co42, .int .i64 0] rfl (by (try simp only [List.map_toArray, List.map_cons, List.map_nil]); first | done | rfl | (simp only [List.length_drop, List.length_take]; rfl)) ?_; (with_reducible refine (bits_Pack.calls k _ _ y123 0 t126 t127 _ ?side1 ?side2 A1.out).mono ?_); (case side1 => repeat (first | exact (Kd.R_reads' HO125.out).2.2 | (with_reducible refine Kd.C_alloc ?_ _) | (with_reducible refine Kd.C_drewN ?_ _) | (with_reducible refine Kd.C_drew ?_))); (case side2 => exact (Kd.R_reads' HO125.out).2.1); rintro e w43 ⟨v128, rfl, ho0, hb⟩; refine ⟨_, rfl, ?_⟩; have n0_ := Aside0.mk (Kd.R_below (by (with_reducible repeat (first | apply Kd.R_alloc | apply Kd.R_drewN | apply Kd.R_drew)); exact HO125.out) hb); have n1_ := Aside0.mk (Kd.R_lower ho0 (below_size (by repeat (first | (with_reducible first | exact HB.out | apply below_alloc | apply pw_below_drewN | apply below_drew1) | exact HB.out)))); have n2_ := Aside0.mk (below_step (by repeat (first | (with_reducible first | exact HB.out | apply below_alloc | apply pw_below_drewN | apply below_drew1) | exact HB.out)) hb); clear HO125; clear HB; have HO125 := n0_; have HO129 := n1_; have HB := n2_; clear n0_ n1_ n2_; (try clear hb); (try clear hb2); (try clear hk); (try clear hi); (try clear ho0)) | ((with_reducible refine gate_callee (f := 11) rfl ?_); refine goesL_ (some 29) rfl rfl Try.func11 (by kernel_rfl) rfl #[.slice none 0 0, .int .i64 65] rfl (by (try simp only [List.map_toArray, List.map_cons, List.map_nil]); first | done | rfl | (simp only [List.length_drop, List.length_take]; rfl)) ?_; (refine (bits_Pack.calls k _ _ ([] : List Int) 65 t130 t131 _ ?side1 ?side2 A2.out).mono ?_); (case side1 => exact Kd.C_nil _ _); (case side2 => exact Nat.le_refl _); rintro e w44 ⟨v132, rfl, ho0, hb⟩; refine ⟨_, rfl, ?_⟩; have n0_ := Aside0.mk (Kd.R_below (by (with_reducible repeat (first | apply Kd.R_alloc | apply Kd.R_drewN | apply Kd.R_drew)); exact HO125.out) hb); have n1_ := Aside0.mk (Kd.R_elder' (by (with_reducible repeat (first | apply Kd.R_alloc | apply Kd.R_drewN | apply Kd.R_drew)); exact HO129.out) (Kd.R_base ho0) hb); have n2_ := Aside0.mk (Kd.R_lower (Kd.R_new' ho0 (Kd.R_lt (by (with_reducible repeat (first | apply Kd.R_alloc | apply Kd.R_drewN | apply Kd.R_drew)); exact HO129.out))) (below_size (by repeat (first | (with_reducible first | exact HB.out | apply below_alloc | apply pw_below_drewN | apply below_drew1) | exact HB.out)))); have n3_ := Aside0.mk (below_step (by repeat (first | (with_reducible first | exact HB.out | apply below_alloc | apply pw_below_drewN | apply below_drew1) | exact HB.out)) hb); clear HO125; clear HO129; clear HB; have HO125 := n0_; have HO129 := n1_; have HO133 := n2_; have HB := n3_; clear n0_ n1_ n2_ n3_; (try clear hb); (try clear hb2); (try clear hk); (try clear hi); (try clear ho0)) | ((with_reducible refine gate_callee (f := 14) rfl ?_); refine goesL_ (some 33) rfl rfl Try.func14 (by kernel_rfl) rfl #[.slice none 0 0, .int .i64 0, .int .i64 (-1)] rfl (by (try simp only [List.map_toArray, List.map_cons, List.map_nil]); first | done | rfl | (simp only [List.length_drop, List.length_take]; rfl)) ?_; (refine (bits_Unpack.calls k _ _ ([] : List Int) 0 (-1) t134 t135 _ ?side1 ?side2 A3.out).mono ?_); (case side1 => exact Kd.C_nil _ _); (case side2 => exact Nat.le_refl _); rintro e w45 ⟨v136, rfl, ho0, hb⟩; refine ⟨_, rfl, ?_⟩; have n0_ := Aside0.mk (Kd.R_elder' (by (with_reducible repeat (first | apply Kd.R_alloc | apply Kd.R_drewN | apply Kd.R_drew)); exact HO125.out) (Kd.R_base ho0) hb); have n1_ := Aside0.mk (Kd.R_below (by (with_reducible repeat (first | apply Kd.R_alloc | apply Kd.R_drewN | apply Kd.R_drew)); exact HO129.out) hb); have n2_ := Aside0.mk (Kd.R_below (by (with_reducible repeat (first | apply Kd.R_alloc | apply Kd.R_drewN | apply Kd.R_drew)); exact HO133.out) hb); have n3_ := Aside0.mk (Kd.R_lower (Kd.R_new' ho0 (Kd.R_lt (by (with_reducible repeat (first | apply Kd.R_alloc | apply Kd.R_drewN | apply Kd.R_drew)); exact HO125.out))) (below_size (by repeat (first | (with_reducible first | exact HB.out | apply below_alloc | apply pw_below_drewN | apply below_drew1) | exact HB.out)))); have n4_ := Aside0.mk (below_step (by repeat (first | (with_reducible first | exact HB.out | apply below_alloc | apply pw_below_drewN | apply below_drew1) | exact HB.out)) hb); clear HO125; clear HO129; clear HO133; clear HB; have HO125 := n0_; have HO129 := n1_; have HO133 := n2_; have HO137 := n3_; have HB := n4_; clear n0_ n1_ n2_ n3_ n4_; (try clear hb); (try clear hb2); (try clear hk); (try clear hi); (try clear ho0)) | ((with_reducible refine gate_callee (f := 14) rfl ?_); refine goesL_ (some 37) rfl rfl Try.func14 (by kernel_rfl) rfl #[.slice none 0 0, .int .i64 (-1), .int .i64 3] rfl (by (try simp only [List.map_toArray, List.map_cons, List.map_nil]); first | done | rfl | (simp only [List.length_drop, List.length_take]; rfl)) ?_; (refine (bits_Unpack.calls k _ _ ([] : List Int) (-1) 3 t138 t139 _ ?side1 ?side2 A4.out).mono ?_); (case side1 => exact Kd.C_nil _ _); (case side2 => exact Nat.le_refl _); rintro e w46 ⟨v140, rfl, ho0, hb⟩; refine ⟨_, rfl, ?_⟩; have n0_ := Aside0.mk (Kd.R_elder' (by (with_reducible repeat (first | apply Kd.R_alloc | apply Kd.R_drewN | apply Kd.R_drew)); exact HO125.out) (Kd.R_base ho0) hb); have n1_ := Aside0.mk (Kd.R_below (by (with_reducible repeat (first | apply Kd.R_alloc | apply Kd.R_drewN | apply Kd.R_drew)); exact HO129.out) hb); have n2_ := Aside0.mk (Kd.R_below (by (with_reducible repeat (first | apply Kd.R_alloc | apply Kd.R_drewN | apply Kd.R_drew)); exact HO133.out) hb); have n3_ := Aside0.mk (Kd.R_elder' (by (with_reducible repeat (first | apply Kd.R_alloc | apply Kd.R_drewN | apply Kd.R_drew)); exact HO137.out) (Kd.R_base ho0) hb); have n4_ := Aside0.mk (Kd.R_lower (Kd.R_new' (Kd.R_new' ho0 (Kd.R_lt (by (with_reducible repeat (first | apply Kd.R_alloc | apply Kd.R_drewN | apply Kd.R_drew)); exact HO125.out))) (Kd.R_lt (by (with_reducible repeat (first | apply Kd.R_alloc | apply Kd.R_drewN | apply Kd.R_drew)); exact HO137.out))) (below_size (by repeat (first | (with_reducible first | exact HB.out | apply below_alloc | apply pw_below_drewN | apply below_drew1) | exact HB.out)))); have n5_ := Aside0.mk (below_step (by repeat (first | (with_reducible first | exact HB.out | apply below_alloc | apply pw_below_drewN | apply below_drew1) | exact HB.out)) hb); clear HO125; clear HO129; clear HO133; clear HO137; clear HB; have HO125 := n0_; have HO129 := n1_; have HO133 := n2_; have HO137 := n3_; have HO141 := n4_; have HB := n5_; clear n0_ n1_ n2_ n3_ n4_ n5_; (try clear hb); (try clear hb2); (try clear hk); (try clear hi); (try clear ho0)) | ((with_reducible refine gate_dst (N := 41) rfl ?_); (try (refine gate_guard (by rfl) ?_; dsimp only)); refine Kd.R_lit (Kd.int .u8) _ 5 ?hg (N := 41) ?hd (xs := ([1] : List Int)) (inner := [.int .u8 1]) (ok := fun _ => True) (okp := fun _ => True) ?hr ?hp (fun _ hk => hk) trivial (Below.refl _ _) (Nat.le_refl _) (by simp) ?_; (case hd => rfl); (case hg => rfl); (case hr => first | (go_simp; done) | (go_simp; rfl)); (case hp => exact (Reps.one (show Kd.M (Kd.int .u8) _ _ _ 1 [.int .u8 1] from rfl) (Reps.none _ _))); intro v143 w47 ho48 hb hg_ hnew_; clear hg_ hnew_; (first | rw [← Ny142.out] at ho48 | (simp only [Int.reduceToNat] at ho48; rw [← Ny142.out] at ho48)); have n0_ := Aside0.mk (Kd.R_below (by (with_reducible repeat (first | apply Kd.R_alloc | apply Kd.R_drewN | apply Kd.R_drew)); exact HO125.out) hb); have n1_ := Aside0.mk (Kd.R_elder' (by (with_reducible repeat (first | apply Kd.R_alloc | apply Kd.R_drewN | apply Kd.R_drew)); exact HO129.out) (Kd.R_base ho48) hb); have n2_ := Aside0.mk (Kd.R_elder' (by (with_reducible repeat (first | apply Kd.R_alloc | apply Kd.R_drewN | apply Kd.R_drew)); exact HO133.out) (Kd.R_base ho48) hb); have n3_ := Aside0.mk (Kd.R_below (by (with_reducible repeat (first | apply Kd.R_alloc | apply Kd.R_drewN | apply Kd.R_drew)); exact HO137.out) hb); have n4_ := Aside0.mk (Kd.R_below (by (with_reducible repeat (first | apply Kd.R_alloc | apply Kd.R_drewN | apply Kd.R_drew)); exact HO141.out) hb); have n5_ := Aside0.mk (Kd.R_lower (Kd.R_new' (Kd.R_new' ho48 (Kd.R_lt (by (with_reducible repeat (first | apply Kd.R_alloc | apply Kd.R_drewN | apply Kd.R_drew)); exact HO129.out))) (Kd.R_lt (by (with_reducible repeat (first | apply Kd.R_alloc | apply Kd.R_drewN | apply Kd.R_drew)); exact HO133.out))) (below_size (by repeat (first | (with_reducible first | exact HB.out | apply below_alloc | apply pw_below_drewN | apply below_drew1) | exact HB.out)))); have n6_ := Aside0.mk (below_step (by repeat (first | (with_reducible first | exact HB.out | apply below_alloc | apply pw_below_drewN | apply below_drew1) | exact HB.out)) hb); clear HO125; clear HO129; clear HO133; clear HO137; clear HO141; clear HB; have HO125 := n0_; have HO129 := n1_; have HO133 := n2_; have HO137 := n3_; have HO141 := n4_; have HO144 := n5_; have HB := n6_; clear n0_ n1_ n2_ n3_ n4_ n5_ n6_; clear hb ho48; obtain ⟨Ao49, co49, eo49⟩ := Kd.R_slice HO144.out; subst eo49) | ((with_reducible refine gate_callee (f := 14) rfl ?_); refine goesL_ (some 42) rfl rfl Try.func14 (by kernel_rfl) rfl #[.slice Ao49 y142.length co49, .int .i64 3, .int .i64 4] rfl (by (try simp only [List.map_toArray, List.map_cons, List.map_nil]); first | done | rfl | (simp only [List.length_drop, List.length_take]; rfl)) ?_; (with_reducible refine (bits_Unpack.calls k _ _ y142 3 4 t145 t146 _ ?side1 ?side2 A5.out).mono ?_); (case side1 => repeat (first | exact (Kd.R_reads' HO144.out).2.2 | (with_reducible refine Kd.C_alloc ?_ _) | (with_reducible refine Kd.C_drewN ?_ _) | (with_reducible refine Kd.C_drew ?_))); (case side2 => exact (Kd.R_reads' HO144.out).2.1); rintro e w50 ⟨v147, rfl, ho0, hb⟩; refine ⟨_, rfl, ?_⟩; have n0_ := Aside0.mk (Kd.R_elder' (by (with_reducible repeat (first | apply Kd.R_alloc | apply Kd.R_drewN | apply Kd.R_drew)); exact HO125.out) (Kd.R_base ho0) hb); have n1_ := Aside0.mk (Kd.R_below (by (with_reducible repeat (first | apply Kd.R_alloc | apply Kd.R_drewN | apply Kd.R_drew)); exact HO129.out) hb); have n2_ := Aside0.mk (Kd.R_below (by (with_reducible repeat (first | apply Kd.R_alloc | apply Kd.R_drewN | apply Kd.R_drew)); exact HO133.out) hb); have n3_ := Aside0.mk (Kd.R_elder' (by (with_reducible repeat (first | apply Kd.R_alloc | apply Kd.R_drewN | apply Kd.R_drew)); exact HO137.out) (Kd.R_base ho0) hb); have n4_ := Aside0.mk (Kd.R_elder' (by (with_reducible repeat (first | apply Kd.R_alloc | apply Kd.R_drewN | apply Kd.R_drew)); exact HO141.out) (Kd.R_base ho0) hb); have n5_ := Aside0.mk (Kd.R_below (by (with_reducible repeat (first | apply Kd.R_alloc | apply Kd.R_drewN | apply Kd.R_drew)); exact HO144.out) hb); have n6_ := Aside0.mk (Kd.R_lower (Kd.R_new' (Kd.R_new' (Kd.R_new' ho0 (Kd.R_lt (by (with_reducible repeat (first | apply Kd.R_alloc | apply Kd.R_drewN | apply Kd.R_drew)); exact HO125.out))) (Kd.R_lt (by (with_reducible repeat (first | apply Kd.R_alloc | apply Kd.R_drewN | apply Kd.R_drew)); exact HO137.out))) (Kd.R_lt (by (with_reducible repeat (first | apply Kd.R_alloc | apply Kd.R_drewN | apply Kd.R_drew)); exact HO141.out))) (below_size (by repeat (first | (with_reducible first | exact HB.out | apply below_alloc | apply pw_below_drewN | apply below_drew1) | exact HB.out)))); have n7_ := Aside0.mk (below_step (by repeat (first | (with_reducible first | exact HB.out | apply below_alloc | apply pw_below_drewN | apply below_drew1) | exact HB.out)) hb); clear HO125; clear HO129; clear HO133; clear HO137; clear HO141; clear HO144; clear HB; have HO125 := n0_; have HO129 := n1_; have HO133 := n2_; have HO137 := n3_; have HO141 := n4_; have HO144 := n5_; have HO148 := n6_; have HB := n7_; clear n0_ n1_ n2_ n3_ n4_ n5_ n6_ n7_; (try clear hb); (try clear hb2); (try clear hk); (try clear hi); (try clear ho0)) | ((with_reducible refine gate_dst (N := 46) rfl ?_); (try (refine gate_guard (by rfl) ?_; dsimp only)); refine Kd.R_lit (Kd.int .u8) _ 5 ?hg (N := 46) ?hd (xs := ([1, 0, 0] : List Int)) (inner := [.int .u8 1, .int .u8 0, .int .u8 0]) (ok := fun _ => True) (okp := fun _ => True) ?hr ?hp (fun _ hk => hk) trivial (Below.refl _ _) (Nat.le_refl _) (by simp) ?_; (case hd => rfl); (case hg => rfl); (case hr => first | (go_simp; done) | (go_simp; rfl)); (case hp => exact (Reps.one (show Kd.M (Kd.int .u8) _ _ _ 1 [.int .u8 1] from rfl) (Reps.one (show Kd.M (Kd.int .u8) _ _ _ 0 [.int .u8 0] from rfl) (Reps.one (show Kd.M (Kd.int .u8) _ _ _ 0 [.int .u8 0] from rfl) (Reps.none _ _))))); intro v150 w51 ho52 hb hg_ hnew_; clear hg_ hnew_; (first | rw [← Ny149.out] at ho52 | (simp only [Int.reduceToNat] at ho52; rw [← Ny149.out] at ho52)); have n0_ := Aside0.mk (Kd.R_below (by (with_reducible repeat (first | apply Kd.R_alloc | apply Kd.R_drewN | apply Kd.R_drew)); exact HO125.out) hb); have n1_ := Aside0.mk (Kd.R_elder' (by (with_reducible repeat (first | apply Kd.R_alloc | apply Kd.R_drewN | apply Kd.R_drew)); exact HO129.out) (Kd.R_base ho52) hb); have n2_ := Aside0.mk (Kd.R_elder' (by (with_reducible repeat (first | apply Kd.R_alloc | apply Kd.R_drewN | apply Kd.R_drew)); exact HO133.out) (Kd.R_base ho52) hb); have n3_ := Aside0.mk (Kd.R_below (by (with_reducible repeat (first | apply Kd.R_alloc | apply Kd.R_drewN | apply Kd.R_drew)); exact HO137.out) hb); have n4_ := Aside0.mk (Kd.R_below (by (with_reducible repeat (first | apply Kd.R_alloc | apply Kd.R_drewN | apply Kd.R_drew)); exact HO141.out) hb); have n5_ := Aside0.mk (Kd.R_elder' (by (with_reducible repeat (first | apply Kd.R_alloc | apply Kd.R_drewN | apply Kd.R_drew)); exact HO144.out) (Kd.R_base ho52) hb); have n6_ := Aside0.mk (Kd.R_below (by (with_reducible repeat (first | apply Kd.R_alloc | apply Kd.R_drewN | apply Kd.R_drew)); exact HO148.out) hb); have n7_ := Aside0.mk (Kd.R_lower (Kd.R_new' (Kd.R_new' (Kd.R_new' ho52 (Kd.R_lt (by (with_reducible repeat (first | apply Kd.R_alloc | apply Kd.R_drewN | apply Kd.R_drew)); exact HO129.out))) (Kd.R_lt (by (with_reducible repeat (first | apply Kd.R_alloc | apply Kd.R_drewN | apply Kd.R_drew)); exact HO133.out))) (Kd.R_lt (by (with_reducible repeat (first | apply Kd.R_alloc | apply Kd.R_drewN | apply Kd.R_drew)); exact HO144.out))) (below_size (by repeat (first | (with_reducible first | exact HB.out | apply below_alloc | apply pw_below_drewN | apply below_drew1) | exact HB.out)))); have n8_ := Aside0.mk (below_step (by repeat (first | (with_reducible first | exact HB.out | apply below_alloc | apply pw_below_drewN | apply below_drew1) | exact HB.out)) hb); clear HO125; clear HO129; clear HO133; clear HO137; clear HO141; clear HO144; clear HO148; clear HB; have HO125 := n0_; have HO129 := n1_; have HO133 := n2_; have HO137 := n3_; have HO141 := n4_; have HO144 := n5_; have HO148 := n6_; have HO151 := n7_; have HB := n8_; clear n0_ n1_ n2_ n3_ n4_ n5_ n6_ n7_ n8_; clear hb ho52; obtain ⟨Ao53, co53, eo53⟩ := Kd.R_slice HO151.out; subst eo53) | ((with_reducible refine gate_callee (f := 14) rfl ?_); refine goesL_ (some 47) rfl rfl Try.func14 (by kernel_rfl) rfl #[.slice Ao53 y149.length co53, .int .i64 3, .int .i64 4] rfl (by (try simp only [List.map_toArray, List.map_cons, List.map_nil]); first | done | rfl | (simp only [List.length_drop, List.length_take]; rfl)) ?_; (with_reducible refine (bits_Unpack.calls k _ _ y149 3 4 t152 t153 _ ?side1 ?side2 A6.out).mono ?_); (case side1 => repeat (first | exact (Kd.R_reads' HO151.out).2.2 | (with_reducible refine Kd.C_alloc ?_ _) | (with_reducible refine Kd.C_drewN ?_ _) | (with_reducible refine Kd.C_drew ?_))); (case side2 => exact (Kd.R_reads' HO151.out).2.1); rintro e w54 ⟨v154, rfl, ho0, hb⟩; refine ⟨_, rfl, ?_⟩; have n0_ := Aside0.mk (Kd.R_elder' (by (with_reducible repeat (first | apply Kd.R_alloc | apply Kd.R_drewN | apply Kd.R_drew)); exact HO125.out) (Kd.R_base ho0) hb); have n1_ := Aside0.mk (Kd.R_below (by (with_reducible repeat (first | apply Kd.R_alloc | apply Kd.R_drewN | apply Kd.R_drew)); exact HO129.out) hb); have n2_ := Aside0.mk (Kd.R_below (by (with_reducible repeat (first | apply Kd.R_alloc | apply Kd.R_drewN | apply Kd.R_drew)); exact HO133.out) hb); have n3_ := Aside0.mk (Kd.R_elder' (by (with_reducible repeat (first | apply Kd.R_alloc | apply Kd.R_drewN | apply Kd.R_drew)); exact HO137.out) (Kd.R_base ho0) hb); have n4_ := Aside0.mk (Kd.R_elder' (by (with_reducible repeat (first | apply Kd.R_alloc | apply Kd.R_drewN | apply Kd.R_drew)); exact HO141.out) (Kd.R_base ho0) hb); have n5_ := Aside0.mk (Kd.R_below (by (with_reducible repeat (first | apply Kd.R_alloc | apply Kd.R_drewN | apply Kd.R_drew)); exact HO144.out) hb); have n6_ := Aside0.mk (Kd.R_elder' (by (with_reducible repeat (first | apply Kd.R_alloc | apply Kd.R_drewN | apply Kd.R_drew)); exact HO148.out) (Kd.R_base ho0) hb); have n7_ := Aside0.mk (Kd.R_below (by (with_reducible repeat (first | apply Kd.R_alloc | apply Kd.R_drewN | apply Kd.R_drew)); exact HO151.out) hb); have n8_ := Aside0.mk (Kd.R_lower (Kd.R_new' (Kd.R_new' (Kd.R_new' (Kd.R_new' ho0 (Kd.R_lt (by (with_reducible repeat (first | apply Kd.R_alloc | apply Kd.R_drewN | apply Kd.R_drew)); exact HO125.out))) (Kd.R_lt (by (with_reducible repeat (first | apply Kd.R_alloc | apply Kd.R_drewN | apply Kd.R_drew)); exact HO137.out))) (Kd.R_lt (by (with_reducible repeat (first | apply Kd.R_alloc | apply Kd.R_drewN | apply Kd.R_drew)); exact HO141.out))) (Kd.R_lt (by (with_reducible repeat (first | apply Kd.R_alloc | apply Kd.R_drewN | apply Kd.R_drew)); exact HO148.out))) (below_size (by repeat (first | (with_reducible first | exact HB.out | apply below_alloc | apply pw_below_drewN | apply below_drew1) | exact HB.out)))); have n9_ := Aside0.mk (below_step (by repeat (first | (with_reducible first | exact HB.out | apply below_alloc | apply pw_below_drewN | apply below_drew1) | exact HB.out)) hb); clear HO125; clear HO129; clear HO133; clear HO137; clear HO141; clear HO144; clear HO148; clear HO151; clear HB; have HO125 := n0_; have HO129 := n1_; have HO133 := n2_; have HO137 := n3_; have HO141 := n4_; have HO144 := n5_; have HO148 := n6_; have HO151 := n7_; have HO155 := n8_; have HB := n9_; clear n0_ n1_ n2_ n3_ n4_ n5_ n6_ n7_ n8_ n9_; (try clear hb); (try clear hb2); (try clear hk); (try clear hi); (try clear ho0)) | ((with_reducible refine gate_dst (N := 51) rfl ?_); (try (refine gate_guard (by rfl) ?_; dsimp only)); refine Kd.R_lit (Kd.int .u8) _ 5 ?hg (N := 51) ?hd (xs := ([255] : List Int)) (inner := [.int .u8 255]) (ok := fun _ => True) (okp := fun _ => True) ?hr ?hp (fun _ hk => hk) trivial (Below.refl _ _) (Nat.le_refl _) (by simp) ?_; (case hd => rfl); (case hg => rfl); (case hr => first | (go_simp; done) | (go_simp; rfl)); (case hp => exact (Reps.one (show Kd.M (Kd.int .u8) _ _ _ 255 [.int .u8 255] from rfl) (Reps.none _ _))); intro v157 w55 ho56 hb hg_ hnew_; clear hg_ hnew_; (first | rw [← Ny156.out] at ho56 | (simp only [Int.reduceToNat] at ho56; rw [← Ny156.out] at ho56)); have n0_ := Aside0.mk (Kd.R_below (by (with_reducible repeat (first | apply Kd.R_alloc | apply Kd.R_drewN | apply Kd.R_drew)); exact HO125.out) hb); have n1_ := Aside0.mk (Kd.R_elder' (by (with_reducible repeat (first | apply Kd.R_alloc | apply Kd.R_drewN | apply Kd.R_drew)); exact HO129.out) (Kd.R_base ho56) hb); have n2_ := Aside0.mk (Kd.R_elder' (by (with_reducible repeat (first | apply Kd.R_alloc | apply Kd.R_drewN | apply Kd.R_drew)); exact HO133.out) (Kd.R_base ho56) hb); have n3_ := Aside0.mk (Kd.R_below (by (with_reducible repeat (first | apply Kd.R_alloc | apply Kd.R_drewN | apply Kd.R_drew)); exact HO137.out) hb); have n4_ := Aside0.mk (Kd.R_below (by (with_reducible repeat (first | apply Kd.R_alloc | apply Kd.R_drewN | apply Kd.R_drew)); exact HO141.out) hb); have n5_ := Aside0.mk (Kd.R_elder' (by (with_reducible repeat (first | apply Kd.R_alloc | apply Kd.R_drewN | apply Kd.R_drew)); exact HO144.out) (Kd.R_base ho56) hb); have n6_ := Aside0.mk (Kd.R_below (by (with_reducible repeat (first | apply Kd.R_alloc | apply Kd.R_drewN | apply Kd.R_drew)); exact HO148.out) hb); have n7_ := Aside0.mk (Kd.R_elder' (by (with_reducible repeat (first | apply Kd.R_alloc | apply Kd.R_drewN | apply Kd.R_drew)); exact HO151.out) (Kd.R_base ho56) hb); have n8_ := Aside0.mk (Kd.R_below (by (with_reducible repeat (first | apply Kd.R_alloc | apply Kd.R_drewN | apply Kd.R_drew)); exact HO155.out) hb); have n9_ := Aside0.mk (Kd.R_lower (Kd.R_new' (Kd.R_new' (Kd.R_new' (Kd.R_new' ho56 (Kd.R_lt (by (with_reducible repeat (first | apply Kd.R_alloc | apply Kd.R_drewN | apply Kd.R_drew)); exact HO129.out))) (Kd.R_lt (by (with_reducible repeat (first | apply Kd.R_alloc | apply Kd.R_drewN | apply Kd.R_drew)); exact HO133.out))) (Kd.R_lt (by (with_reducible repeat (first | apply Kd.R_alloc | apply Kd.R_drewN | apply Kd.R_drew)); exact HO144.out))) (Kd.R_lt (by (with_reducible repeat (first | apply Kd.R_alloc | apply Kd.R_drewN | apply Kd.R_drew)); exact HO151.out))) (below_size (by repeat (first | (with_reducible first | exact HB.out | apply below_alloc | apply pw_below_drewN | apply below_drew1) | exact HB.out)))); have n10_ := Aside0.mk (below_step (by repeat (first | (with_reducible first | exact HB.out | apply below_alloc | apply pw_below_drewN | apply below_drew1) | exact HB.out)) hb); clear HO125; clear HO129; clear HO133; clear HO137; clear HO141; clear HO144; clear HO148; clear HO151; clear HO155; clear HB; have HO125 := n0_; have HO129 := n1_; have HO133 := n2_; have HO137 := n3_; have HO141 := n4_; have HO144 := n5_; have HO148 := n6_; have HO151 := n7_; have HO155 := n8_; have HO158 := n9_; have HB := n10_; clear n0_ n1_ n2_ n3_ n4_ n5_ n6_ n7_ n8_ n9_ n10_; clear hb ho56; obtain ⟨Ao57, co57, eo57⟩ := Kd.R_slice HO158.out; subst eo57) | ((with_reducible refine gate_callee (f := 14) rfl ?_); refine goesL_ (some 52) rfl rfl Try.func14 (by kernel_rfl) rfl #[.slice Ao57 y156.length co57, .int .i64 1, .int .i64 2] rfl (by (try simp only [List.map_toArray, List.map_cons, List.map_nil]); first | done | rfl | (simp only [List.length_drop, List.length_take]; rfl)) ?_; (with_reducible refine (bits_Unpack.calls k _ _ y156 1 2 t159 t160 _ ?side1 ?side2 A7.out).mono ?_); (case side1 => repeat (first | exact (Kd.R_reads' HO158.out).2.2 | (with_reducible refine Kd.C_alloc ?_ _) | (with_reducible refine Kd.C_drewN ?_ _) | (with_reducible refine Kd.C_drew ?_))); (case side2 => exact (Kd.R_reads' HO158.out).2.1); rintro e w58 ⟨v161, rfl, ho0, hb⟩; refine ⟨_, rfl, ?_⟩; have n0_ := Aside0.mk (Kd.R_elder' (by (with_reducible repeat (first | apply Kd.R_alloc | apply Kd.R_drewN | apply Kd.R_drew)); exact HO125.out) (Kd.R_base ho0) hb); have n1_ := Aside0.mk (Kd.R_below (by (with_reducible repeat (first | apply Kd.R_alloc | apply Kd.R_drewN | apply Kd.R_drew)); exact HO129.out) hb); have n2_ := Aside0.mk (Kd.R_below (by (with_reducible repeat (first | apply Kd.R_alloc | apply Kd.R_drewN | apply Kd.R_drew)); exact HO133.out) hb); have n3_ := Aside0.mk (Kd.R_elder' (by (with_reducible repeat (first | apply Kd.R_alloc | apply Kd.R_drewN | apply Kd.R_drew)); exact HO137.out) (Kd.R_base ho0) hb); have n4_ := Aside0.mk (Kd.R_elder' (by (with_reducible repeat (first | apply Kd.R_alloc | apply Kd.R_drewN | apply Kd.R_drew)); exact HO141.out) (Kd.R_base ho0) hb); have n5_ := Aside0.mk (Kd.R_below (by (with_reducible repeat (first | apply Kd.R_alloc | apply Kd.R_drewN | apply Kd.R_drew)); exact HO144.out) hb); have n6_ := Aside0.mk (Kd.R_elder' (by (with_reducible repeat (first | apply Kd.R_alloc | apply Kd.R_drewN | apply Kd.R_drew)); exact HO148.out) (Kd.R_base ho0) hb); have n7_ := Aside0.mk (Kd.R_below (by (with_reducible repeat (first | apply Kd.R_alloc | apply Kd.R_drewN | apply Kd.R_drew)); exact HO151.out) hb); have n8_ := Aside0.mk (Kd.R_elder' (by (with_reducible repeat (first | apply Kd.R_alloc | apply Kd.R_drewN | apply Kd.R_drew)); exact HO155.out) (Kd.R_base ho0) hb); have n9_ := Aside0.mk (Kd.R_below (by (with_reducible repeat (first | apply Kd.R_alloc | apply Kd.R_drewN | apply Kd.R_drew)); exact HO158.out) hb); have n10_ := Aside0.mk (Kd.R_lower (Kd.R_new' (Kd.R_new' (Kd.R_new' (Kd.R_new' (Kd.R_new' ho0 (Kd.R_lt (by (with_reducible repeat (first | apply Kd.R_alloc | apply Kd.R_drewN | apply Kd.R_drew)); exact HO125.out))) (Kd.R_lt (by (with_reducible repeat (first | apply Kd.R_alloc | apply Kd.R_drewN | apply Kd.R_drew)); exact HO137.out))) (Kd.R_lt (by (with_reducible repeat (first | apply Kd.R_alloc | apply Kd.R_drewN | apply Kd.R_drew)); exact HO141.out))) (Kd.R_lt (by (with_reducible repeat (first | apply Kd.R_alloc | apply Kd.R_drewN | apply Kd.R_drew)); exact HO148.out))) (Kd.R_lt (by (with_reducible repeat (first | apply Kd.R_alloc | apply Kd.R_drewN | apply Kd.R_drew)); exact HO155.out))) (below_size (by repeat (first | (with_reducible first | exact HB.out | apply below_alloc | apply pw_below_drewN | apply below_drew1) | exact HB.out)))); have n11_ := Aside0.mk (below_step (by repeat (first | (with_reducible first | exact HB.out | apply below_alloc | apply pw_below_drewN | apply below_drew1) | exact HB.out)) hb); clear HO125; clear HO129; clear HO133; clear HO137; clear HO141; clear HO144; clear HO148; clear HO151; clear HO155; clear HO158; clear HB; have HO125 := n0_; have HO129 := n1_; have HO133 := n2_; have HO137 := n3_; have HO141 := n4_; have HO144 := n5_; have HO148 := n6_; have HO151 := n7_; have HO155 := n8_; have HO158 := n9_; have HO162 := n10_; have HB := n11_; clear n0_ n1_ n2_ n3_ n4_ n5_ n6_ n7_ n8_ n9_ n10_ n11_; (try clear hb); (try clear hb2); (try clear hk); (try clear hi); (try clear ho0)) | ((with_reducible refine gate_dst (N := 56) rfl ?_); (try (refine gate_guard (by rfl) ?_; dsimp only)); refine Kd.R_lit (Kd.int .u8) _ 5 ?hg (N := 56) ?hd (xs := ([3] : List Int)) (inner := [.int .u8 3]) (ok := fun _ => True) (okp := fun _ => True) ?hr ?hp (fun _ hk => hk) trivial (Below.refl _ _) (Nat.le_refl _) (by simp) ?_; (case hd => rfl); (case hg => rfl); (case hr => first | (go_simp; done) | (go_simp; rfl)); (case hp => exact (Reps.one (show Kd.M (Kd.int .u8) _ _ _ 3 [.int .u8 3] from rfl) (Reps.none _ _))); intro v164 w59 ho60 hb hg_ hnew_; clear hg_ hnew_; (first | rw [← Ny163.out] at ho60 | (simp only [Int.reduceToNat] at ho60; rw [← Ny163.out] at ho60)); have n0_ := Aside0.mk (Kd.R_below (by (with_reducible repeat (first | apply Kd.R_alloc | apply Kd.R_drewN | apply Kd.R_drew)); exact HO125.out) hb); have n1_ := Aside0.mk (Kd.R_elder' (by (with_reducible repeat (first | apply Kd.R_alloc | apply Kd.R_drewN | apply Kd.R_drew)); exact HO129.out) (Kd.R_base ho60) hb); have n2_ := Aside0.mk (Kd.R_elder' (by (with_reducible repeat (first | apply Kd.R_alloc | apply Kd.R_drewN | apply Kd.R_drew)); exact HO133.out) (Kd.R_base ho60) hb); have n3_ := Aside0.mk (Kd.R_below (by (with_reducible repeat (first | apply Kd.R_alloc | apply Kd.R_drewN | apply Kd.R_drew)); exact HO137.out) hb); have n4_ := Aside0.mk (Kd.R_below (by (with_reducible repeat (first | apply Kd.R_alloc | apply Kd.R_drewN | apply Kd.R_drew)); exact HO141.out) hb); have n5_ := Aside0.mk (Kd.R_elder' (by (with_reducible repeat (first | apply Kd.R_alloc | apply Kd.R_drewN | apply Kd.R_drew)); exact HO144.out) (Kd.R_base ho60) hb); have n6_ := Aside0.mk (Kd.R_below (by (with_reducible repeat (first | apply Kd.R_alloc | apply Kd.R_drewN | apply Kd.R_drew)); exact HO148.out) hb); have n7_ := Aside0.mk (Kd.R_elder' (by (with_reducible repeat (first | apply Kd.R_alloc | apply Kd.R_drewN | apply Kd.R_drew)); exact HO151.out) (Kd.R_base ho60) hb); have n8_ := Aside0.mk (Kd.R_below (by (with_reducible repeat (first | apply Kd.R_alloc | apply Kd.R_drewN | apply Kd.R_drew)); exact HO155.out) hb); have n9_ := Aside0.mk (Kd.R_elder' (by (with_reducible repeat (first | apply Kd.R_alloc | apply Kd.R_drewN | apply Kd.R_drew)); exact HO158.out) (Kd.R_base ho60) hb); have n10_ := Aside0.mk (Kd.R_below (by (with_reducible repeat (first | apply Kd.R_alloc | apply Kd.R_drewN | apply Kd.R_drew)); exact HO162.out) hb); have n11_ := Aside0.mk (Kd.R_lower (Kd.R_new' (Kd.R_new' (Kd.R_new' (Kd.R_new' (Kd.R_new' ho60 (Kd.R_lt (by (with_reducible repeat (first | apply Kd.R_alloc | apply Kd.R_drewN | apply Kd.R_drew)); exact HO129.out))) (Kd.R_lt (by (with_reducible repeat (first | apply Kd.R_alloc | apply Kd.R_drewN | apply Kd.R_drew)); exact HO133.out))) (Kd.R_lt (by (with_reducible repeat (first | apply Kd.R_alloc | apply Kd.R_drewN | apply Kd.R_drew)); exact HO144.out))) (Kd.R_lt (by (with_reducible repeat (first | apply Kd.R_alloc | apply Kd.R_drewN | apply Kd.R_drew)); exact HO151.out))) (Kd.R_lt (by (with_reducible repeat (first | apply Kd.R_alloc | apply Kd.R_drewN | apply Kd.R_drew)); exact HO158.out))) (below_size (by repeat (first | (with_reducible first | exact HB.out | apply below_alloc | apply pw_below_drewN | apply below_drew1) | exact HB.out)))); have n12_ := Aside0.mk (below_step (by repeat (first | (with_reducible first | exact HB.out | apply below_alloc | apply pw_below_drewN | apply below_drew1) | exact HB.out)) hb); clear HO125; clear HO129; clear HO133; clear HO137; clear HO141; clear HO144; clear HO148; clear HO151; clear HO155; clear HO158; clear HO162; clear HB; have HO125 := n0_; have HO129 := n1_; have HO133 := n2_; have HO137 := n3_; have HO141 := n4_; have HO144 := n5_; have HO148 := n6_; have HO151 := n7_; have HO155 := n8_; have HO158 := n9_; have HO162 := n10_; have HO165 := n11_; have HB := n12_; clear n0_ n1_ n2_ n3_ n4_ n5_ n6_ n7_ n8_ n9_ n10_ n11_ n12_; clear hb ho60; obtain ⟨Ao61, co61, eo61⟩ := Kd.R_slice HO165.out; subst eo61) | ((with_reducible refine gate_callee (f := 14) rfl ?_); refine goesL_ (some 57) rfl rfl Try.func14 (by kernel_rfl) rfl #[.slice Ao61 y163.length co61, .int .i64 1, .int .i64 2] rfl (by (try simp only [List.map_toArray, List.map_cons, List.map_nil]); first | done | rfl | (simp only [List.length_drop, List.length_take]; rfl)) ?_; (with_reducible refine (bits_Unpack.calls k _ _ y163 1 2 t166 t167 _ ?side1 ?side2 A8.out).mono ?_); (case side1 => repeat (first | exact (Kd.R_reads' HO165.out).2.2 | (with_reducible refine Kd.C_alloc ?_ _) | (with_reducible refine Kd.C_drewN ?_ _) | (with_reducible refine Kd.C_drew ?_))); (case side2 => exact (Kd.R_reads' HO165.out).2.1); rintro e w62 ⟨v168, rfl, ho0, hb⟩; refine ⟨_, rfl, ?_⟩; have n0_ := Aside0.mk (Kd.R_elder' (by (with_reducible repeat (first | apply Kd.R_alloc | apply Kd.R_drewN | apply Kd.R_drew)); exact HO125.out) (Kd.R_base ho0) hb); have n1_ := Aside0.mk (Kd.R_below (by (with_reducible repeat (first | apply Kd.R_alloc | apply Kd.R_drewN | apply Kd.R_drew)); exact HO129.out) hb); have n2_ := Aside0.mk (Kd.R_below (by (with_reducible repeat (first | apply Kd.R_alloc | apply Kd.R_drewN | apply Kd.R_drew)); exact HO133.out) hb); have n3_ := Aside0.mk (Kd.R_elder' (by (with_reducible repeat (first | apply Kd.R_alloc | apply Kd.R_drewN | apply Kd.R_drew)); exact HO137.out) (Kd.R_base ho0) hb); have n4_ := Aside0.mk (Kd.R_elder' (by (with_reducible repeat (first | apply Kd.R_alloc | apply Kd.R_drewN | apply Kd.R_drew)); exact HO141.out) (Kd.R_base ho0) hb); have n5_ := Aside0.mk (Kd.R_below (by (with_reducible repeat (first | apply Kd.R_alloc | apply Kd.R_drewN | apply Kd.R_drew)); exact HO144.out) hb); have n6_ := Aside0.mk (Kd.R_elder' (by (with_reducible repeat (first | apply Kd.R_alloc | apply Kd.R_drewN | apply Kd.R_drew)); exact HO148.out) (Kd.R_base ho0) hb); have n7_ := Aside0.mk (Kd.R_below (by (with_reducible repeat (first | apply Kd.R_alloc | apply Kd.R_drewN | apply Kd.R_drew)); exact HO151.out) hb); have n8_ := Aside0.mk (Kd.R_elder' (by (with_reducible repeat (first | apply Kd.R_alloc | apply Kd.R_drewN | apply Kd.R_drew)); exact HO155.out) (Kd.R_base ho0) hb); have n9_ := Aside0.mk (Kd.R_below (by (with_reducible repeat (first | apply Kd.R_alloc | apply Kd.R_drewN | apply Kd.R_drew)); exact HO158.out) hb); have n10_ := Aside0.mk (Kd.R_elder' (by (with_reducible repeat (first | apply Kd.R_alloc | apply Kd.R_drewN | apply Kd.R_drew)); exact HO162.out) (Kd.R_base ho0) hb); have n11_ := Aside0.mk (Kd.R_below (by (with_reducible repeat (first | apply Kd.R_alloc | apply Kd.R_drewN | apply Kd.R_drew)); exact HO165.out) hb); have n12_ := Aside0.mk (Kd.R_lower (Kd.R_new' (Kd.R_new' (Kd.R_new' (Kd.R_new' (Kd.R_new' (Kd.R_new' ho0 (Kd.R_lt (by (with_reducible repeat (first | apply Kd.R_alloc | apply Kd.R_drewN | apply Kd.R_drew)); exact HO125.out))) (Kd.R_lt (by (with_reducible repeat (first | apply Kd.R_alloc | apply Kd.R_drewN | apply Kd.R_drew)); exact HO137.out))) (Kd.R_lt (by (with_reducible repeat (first | apply Kd.R_alloc | apply Kd.R_drewN | apply Kd.R_drew)); exact HO141.out))) (Kd.R_lt (by (with_reducible repeat (first | apply Kd.R_alloc | apply Kd.R_drewN | apply Kd.R_drew)); exact HO148.out))) (Kd.R_lt (by (with_reducible repeat (first | apply Kd.R_alloc | apply Kd.R_drewN | apply Kd.R_drew)); exact HO155.out))) (Kd.R_lt (by (with_reducible repeat (first | apply Kd.R_alloc | apply Kd.R_drewN | apply Kd.R_drew)); exact HO162.out))) (below_size (by repeat (first | (with_reducible first | exact HB.out | apply below_alloc | apply pw_below_drewN | apply below_drew1) | exact HB.out)))); have n13_ := Aside0.mk (below_step (by repeat (first | (with_reducible first | exact HB.out | apply below_alloc | apply pw_below_drewN | apply below_drew1) | exact HB.out)) hb); clear HO125; clear HO129; clear HO133; clear HO137; clear HO141; clear HO144; clear HO148; clear HO151; clear HO155; clear HO158; clear HO162; clear HO165; clear HB; have HO125 := n0_; have HO129 := n1_; have HO133 := n2_; have HO137 := n3_; have HO141 := n4_; have HO144 := n5_; have HO148 := n6_; have HO151 := n7_; have HO155 := n8_; have HO158 := n9_; have HO162 := n10_; have HO165 := n11_; have HO169 := n12_; have HB := n13_; clear n0_ n1_ n2_ n3_ n4_ n5_ n6_ n7_ n8_ n9_ n10_ n11_ n12_ n13_; (try clear hb); (try clear hb2); (try clear hk); (try clear hi); (try clear ho0)) | ((with_reducible refine gate_callee (f := 14) rfl ?_); refine goesL_ (some 61) rfl rfl Try.func14 (by kernel_rfl) rfl #[.slice none 0 0, .int .i64 5, .int .i64 0] rfl (by (try simp only [List.map_toArray, List.map_cons, List.map_nil]); first | done | rfl | (simp only [List.length_drop, List.length_take]; rfl)) ?_; (refine (bits_Unpack.calls k _ _ ([] : List Int) 5 0 t170 t171 _ ?side1 ?side2 A9.out).mono ?_); (case side1 => exact Kd.C_nil _ _); (case side2 => exact Nat.le_refl _); rintro e w63 ⟨v172, rfl, ho0, hb⟩; refine ⟨_, rfl, ?_⟩; have n0_ := Aside0.mk (Kd.R_elder' (by (with_reducible repeat (first | apply Kd.R_alloc | apply Kd.R_drewN | apply Kd.R_drew)); exact HO125.out) (Kd.R_base ho0) hb); have n1_ := Aside0.mk (Kd.R_below (by (with_reducible repeat (first | apply Kd.R_alloc | apply Kd.R_drewN | apply Kd.R_drew)); exact HO129.out) hb); have n2_ := Aside0.mk (Kd.R_below (by (with_reducible repeat (first | apply Kd.R_alloc | apply Kd.R_drewN | apply Kd.R_drew)); exact HO133.out) hb); have n3_ := Aside0.mk (Kd.R_elder' (by (with_reducible repeat (first | apply Kd.R_alloc | apply Kd.R_drewN | apply Kd.R_drew)); exact HO137.out) (Kd.R_base ho0) hb); have n4_ := Aside0.mk (Kd.R_elder' (by (with_reducible repeat (first | apply Kd.R_alloc | apply Kd.R_drewN | apply Kd.R_drew)); exact HO141.out) (Kd.R_base ho0) hb); have n5_ := Aside0.mk (Kd.R_below (by (with_reducible repeat (first | apply Kd.R_alloc | apply Kd.R_drewN | apply Kd.R_drew)); exact HO144.out) hb); have n6_ := Aside0.mk (Kd.R_elder' (by (with_reducible repeat (first | apply Kd.R_alloc | apply Kd.R_drewN | apply Kd.R_drew)); exact HO148.out) (Kd.R_base ho0) hb); have n7_ := Aside0.mk (Kd.R_below (by (with_reducible repeat (first | apply Kd.R_alloc | apply Kd.R_drewN | apply Kd.R_drew)); exact HO151.out) hb); have n8_ := Aside0.mk (Kd.R_elder' (by (with_reducible repeat (first | apply Kd.R_alloc | apply Kd.R_drewN | apply Kd.R_drew)); exact HO155.out) (Kd.R_base ho0) hb); have n9_ := Aside0.mk (Kd.R_below (by (with_reducible repeat (first | apply Kd.R_alloc | apply Kd.R_drewN | apply Kd.R_drew)); exact HO158.out) hb); have n10_ := Aside0.mk (Kd.R_elder' (by (with_reducible repeat (first | apply Kd.R_alloc | apply Kd.R_drewN | apply Kd.R_drew)); exact HO162.out) (Kd.R_base ho0) hb); have n11_ := Aside0.mk (Kd.R_below (by (with_reducible repeat (first | apply Kd.R_alloc | apply Kd.R_drewN | apply Kd.R_drew)); exact HO165.out) hb); have n12_ := Aside0.mk (Kd.R_elder' (by (with_reducible repeat (first | apply Kd.R_alloc | apply Kd.R_drewN | apply Kd.R_drew)); exact HO169.out) (Kd.R_base ho0) hb); have n13_ := Aside0.mk (Kd.R_lower (Kd.R_new' (Kd.R_new' (Kd.R_new' (Kd.R_new' (Kd.R_new' (Kd.R_new' (Kd.R_new' ho0 (Kd.R_lt (by (with_reducible repeat (first | apply Kd.R_alloc | apply Kd.R_drewN | apply Kd.R_drew)); exact HO125.out))) (Kd.R_lt (by (with_reducible repeat (first | apply Kd.R_alloc | apply Kd.R_drewN | apply Kd.R_drew)); exact HO137.out))) (Kd.R_lt (by (with_reducible repeat (first | apply Kd.R_alloc | apply Kd.R_drewN | apply Kd.R_drew)); exact HO141.out))) (Kd.R_lt (by (with_reducible repeat (first | apply Kd.R_alloc | apply Kd.R_drewN | apply Kd.R_drew)); exact HO148.out))) (Kd.R_lt (by (with_reducible repeat (first | apply Kd.R_alloc | apply Kd.R_drewN | apply Kd.R_drew)); exact HO155.out))) (Kd.R_lt (by (with_reducible repeat (first | apply Kd.R_alloc | apply Kd.R_drewN | apply Kd.R_drew)); exact HO162.out))) (Kd.R_lt (by (with_reducible repeat (first | apply Kd.R_alloc | apply Kd.R_drewN | apply Kd.R_drew)); exact HO169.out))) (below_size (by repeat (first | (with_reducible first | exact HB.out | apply below_alloc | apply pw_below_drewN | apply below_drew1) | exact HB.out)))); have n14_ := Aside0.mk (below_step (by repeat (first | (with_reducible first | exact HB.out | apply below_alloc | apply pw_below_drewN | apply below_drew1) | exact HB.out)) hb); clear HO125; clear HO129; clear HO133; clear HO137; clear HO141; clear HO144; clear HO148; clear HO151; clear HO155; clear HO158; clear HO162; clear HO165; clear HO169; clear HB; have HO125 := n0_; have HO129 := n1_; have HO133 := n2_; have HO137 := n3_; have HO141 := n4_; have HO144 := n5_; have HO148 := n6_; have HO151 := n7_; have HO155 := n8_; have HO158 := n9_; have HO162 := n10_; have HO165 := n11_; have HO169 := n12_; have HO173 := n13_; have HB := n14_; clear n0_ n1_ n2_ n3_ n4_ n5_ n6_ n7_ n8_ n9_ n10_ n11_ n12_ n13_ n14_; (try clear hb); (try clear hb2); (try clear hk); (try clear hi); (try clear ho0)) | ((with_reducible refine gate_callee (f := 14) rfl ?_); refine goesL_ (some 65) rfl rfl Try.func14 (by kernel_rfl) rfl #[.slice none 0 0, .int .i64 16777217, .int .i64 0] rfl (by (try simp only [List.map_toArray, List.map_cons, List.map_nil]); first | done | rfl | (simp only [List.length_drop, List.length_take]; rfl)) ?_; (refine (bits_Unpack.calls k _ _ ([] : List Int) 16777217 0 t174 t175 _ ?side1 ?side2 A10.out).mono ?_); (case side1 => exact Kd.C_nil _ _); (case side2 => exact Nat.le_refl _); rintro e w64 ⟨v176, rfl, ho0, hb⟩; refine ⟨_, rfl, ?_⟩; have n0_ := Aside0.mk (Kd.R_elder' (by (with_reducible repeat (first | apply Kd.R_alloc | apply Kd.R_drewN | apply Kd.R_drew)); exact HO125.out) (Kd.R_base ho0) hb); have n1_ := Aside0.mk (Kd.R_below (by (with_reducible repeat (first | apply Kd.R_alloc | apply Kd.R_drewN | apply Kd.R_drew)); exact HO129.out) hb); have n2_ := Aside0.mk (Kd.R_below (by (with_reducible repeat (first | apply Kd.R_alloc | apply Kd.R_drewN | apply Kd.R_drew)); exact HO133.out) hb); have n3_ := Aside0.mk (Kd.R_elder' (by (with_reducible repeat (first | apply Kd.R_alloc | apply Kd.R_drewN | apply Kd.R_drew)); exact HO137.out) (Kd.R_base ho0) hb); have n4_ := Aside0.mk (Kd.R_elder' (by (with_reducible repeat (first | apply Kd.R_alloc | apply Kd.R_drewN | apply Kd.R_drew)); exact HO141.out) (Kd.R_base ho0) hb); have n5_ := Aside0.mk (Kd.R_below (by (with_reducible repeat (first | apply Kd.R_alloc | apply Kd.R_drewN | apply Kd.R_drew)); exact HO144.out) hb); have n6_ := Aside0.mk (Kd.R_elder' (by (with_reducible repeat (first | apply Kd.R_alloc | apply Kd.R_drewN | apply Kd.R_drew)); exact HO148.out) (Kd.R_base ho0) hb); have n7_ := Aside0.mk (Kd.R_below (by (with_reducible repeat (first | apply Kd.R_alloc | apply Kd.R_drewN | apply Kd.R_drew)); exact HO151.out) hb); have n8_ := Aside0.mk (Kd.R_elder' (by (with_reducible repeat (first | apply Kd.R_alloc | apply Kd.R_drewN | apply Kd.R_drew)); exact HO155.out) (Kd.R_base ho0) hb); have n9_ := Aside0.mk (Kd.R_below (by (with_reducible repeat (first | apply Kd.R_alloc | apply Kd.R_drewN | apply Kd.R_drew)); exact HO158.out) hb); have n10_ := Aside0.mk (Kd.R_elder' (by (with_reducible repeat (first | apply Kd.R_alloc | apply Kd.R_drewN | apply Kd.R_drew)); exact HO162.out) (Kd.R_base ho0) hb); have n11_ := Aside0.mk (Kd.R_below (by (with_reducible repeat (first | apply Kd.R_alloc | apply Kd.R_drewN | apply Kd.R_drew)); exact HO165.out) hb); have n12_ := Aside0.mk (Kd.R_elder' (by (with_reducible repeat (first | apply Kd.R_alloc | apply Kd.R_drewN | apply Kd.R_drew)); exact HO169.out) (Kd.R_base ho0) hb); have n13_ := Aside0.mk (Kd.R_elder' (by (with_reducible repeat (first | apply Kd.R_alloc | apply Kd.R_drewN | apply Kd.R_drew)); exact HO173.out) (Kd.R_base ho0) hb); have n14_ := Aside0.mk (Kd.R_lower (Kd.R_new' (Kd.R_new' (Kd.R_new' (Kd.R_new' (Kd.R_new' (Kd.R_new' (Kd.R_new' (Kd.R_new' ho0 (Kd.R_lt (by (with_reducible repeat (first | apply Kd.R_alloc | apply Kd.R_drewN | apply Kd.R_drew)); exact HO125.out))) (Kd.R_lt (by (with_reducible repeat (first | apply Kd.R_alloc | apply Kd.R_drewN | apply Kd.R_drew)); exact HO137.out))) (Kd.R_lt (by (with_reducible repeat (first | apply Kd.R_alloc | apply Kd.R_drewN | apply Kd.R_drew)); exact HO141.out))) (Kd.R_lt (by (with_reducible repeat (first | apply Kd.R_alloc | apply Kd.R_drewN | apply Kd.R_drew)); exact HO148.out))) (Kd.R_lt (by (with_reducible repeat (first | apply Kd.R_alloc | apply Kd.R_drewN | apply Kd.R_drew)); exact HO155.out))) (Kd.R_lt (by (with_reducible repeat (first | apply Kd.R_alloc | apply Kd.R_drewN | apply Kd.R_drew)); exact HO162.out))) (Kd.R_lt (by (with_reducible repeat (first | apply Kd.R_alloc | apply Kd.R_drewN | apply Kd.R_drew)); exact HO169.out))) (Kd.R_lt (by (with_reducible repeat (first | apply Kd.R_alloc | apply Kd.R_drewN | apply Kd.R_drew)); exact HO173.out))) (below_size (by repeat (first | (with_reducible first | exact HB.out | apply below_alloc | apply pw_below_drewN | apply below_drew1) | exact HB.out)))); have n15_ := Aside0.mk (below_step (by repeat (first | (with_reducible first | exact HB.out | apply below_alloc | apply pw_below_drewN | apply below_drew1) | exact HB.out)) hb); clear HO125; clear HO129; clear HO133; clear HO137; clear HO141; clear HO144; clear HO148; clear HO151; clear HO155; clear HO158; clear HO162; clear HO165; clear HO169; clear HO173; clear HB; have HO125 := n0_; have HO129 := n1_; have HO133 := n2_; have HO137 := n3_; have HO141 := n4_; have HO144 := n5_; have HO148 := n6_; have HO151 := n7_; have HO155 := n8_; have HO158 := n9_; have HO162 := n10_; have HO165 := n11_; have HO169 := n12_; have HO173 := n13_; have HO177 := n14_; have HB := n15_; clear n0_ n1_ n2_ n3_ n4_ n5_ n6_ n7_ n8_ n9_ n10_ n11_ n12_ n13_ n14_ n15_; (try clear hb); (try clear hb2); (try clear hk); (try clear hi); (try clear ho0)) | ((with_reducible refine gate_dst (N := 69) rfl ?_); (try (refine gate_guard (by rfl) ?_; dsimp only)); refine Kd.R_lit (Kd.int .u64) _ 29 ?hg (N := 69) ?hd (xs := ([18446744073709551615, 5] : List Int)) (inner := [.int .u64 18446744073709551615, .int .u64 5]) (ok := fun _ => True) (okp := fun _ => True) ?hr ?hp (fun _ hk => hk) trivial (Below.refl _ _) (Nat.le_refl _) (by simp) ?_; (case hd => rfl); (case hg => rfl); (case hr => first | (go_simp; done) | (go_simp; rfl)); (case hp => exact (Reps.one (show Kd.M (Kd.int .u64) _ _ _ 18446744073709551615 [.int .u64 18446744073709551615] from rfl) (Reps.one (show Kd.M (Kd.int .u64) _ _ _ 5 [.int .u64 5] from rfl) (Reps.none _ _)))); intro v179 w65 ho66 hb hg_ hnew_; clear hg_ hnew_; (first | rw [← Ny178.out] at ho66 | (simp only [Int.reduceToNat] at ho66; rw [← Ny178.out] at ho66)); have n0_ := Aside0.mk (Kd.R_elder' (by (with_reducible repeat (first | apply Kd.R_alloc | apply Kd.R_drewN | apply Kd.R_drew)); exact HO125.out) (Kd.R_base ho66) hb); have n1_ := Aside0.mk (Kd.R_below (by (with_reducible repeat (first | apply Kd.R_alloc | apply Kd.R_drewN | apply Kd.R_drew)); exact HO129.out) hb); have n2_ := Aside0.mk (Kd.R_below (by (with_reducible repeat (first | apply Kd.R_alloc | apply Kd.R_drewN | apply Kd.R_drew)); exact HO133.out) hb); have n3_ := Aside0.mk (Kd.R_elder' (by (with_reducible repeat (first | apply Kd.R_alloc | apply Kd.R_drewN | apply Kd.R_drew)); exact HO137.out) (Kd.R_base ho66) hb); have n4_ := Aside0.mk (Kd.R_elder' (by (with_reducible repeat (first | apply Kd.R_alloc | apply Kd.R_drewN | apply Kd.R_drew)); exact HO141.out) (Kd.R_base ho66) hb); have n5_ := Aside0.mk (Kd.R_below (by (with_reducible repeat (first | apply Kd.R_alloc | apply Kd.R_drewN | apply Kd.R_drew)); exact HO144.out) hb); have n6_ := Aside0.mk (Kd.R_elder' (by (with_reducible repeat (first | apply Kd.R_alloc | apply Kd.R_drewN | apply Kd.R_drew)); exact HO148.out) (Kd.R_base ho66) hb); have n7_ := Aside0.mk (Kd.R_below (by (with_reducible repeat (first | apply Kd.R_alloc | apply Kd.R_drewN | apply Kd.R_drew)); exact HO151.out) hb); have n8_ := Aside0.mk (Kd.R_elder' (by (with_reducible repeat (first | apply Kd.R_alloc | apply Kd.R_drewN | apply Kd.R_drew)); exact HO155.out) (Kd.R_base ho66) hb); have n9_ := Aside0.mk (Kd.R_below (by (with_reducible repeat (first | apply Kd.R_alloc | apply Kd.R_drewN | apply Kd.R_drew)); exact HO158.out) hb); have n10_ := Aside0.mk (Kd.R_elder' (by (with_reducible repeat (first | apply Kd.R_alloc | apply Kd.R_drewN | apply Kd.R_drew)); exact HO162.out) (Kd.R_base ho66) hb); have n11_ := Aside0.mk (Kd.R_below (by (with_reducible repeat (first | apply Kd.R_alloc | apply Kd.R_drewN | apply Kd.R_drew)); exact HO165.out) hb); have n12_ := Aside0.mk (Kd.R_elder' (by (with_reducible repeat (first | apply Kd.R_alloc | apply Kd.R_drewN | apply Kd.R_drew)); exact HO169.out) (Kd.R_base ho66) hb); have n13_ := Aside0.mk (Kd.R_elder' (by (with_reducible repeat (first | apply Kd.R_alloc | apply Kd.R_drewN | apply Kd.R_drew)); exact HO173.out) (Kd.R_base ho66) hb); have n14_ := Aside0.mk (Kd.R_elder' (by (with_reducible repeat (first | apply Kd.R_alloc | apply Kd.R_drewN | apply Kd.R_drew)); exact HO177.out) (Kd.R_base ho66) hb); have n15_ := Aside0.mk (Kd.R_lower (Kd.R_new' (Kd.R_new' (Kd.R_new' (Kd.R_new' (Kd.R_new' (Kd.R_new' (Kd.R_new' (Kd.R_new' (Kd.R_new' ho66 (Kd.R_lt (by (with_reducible repeat (first | apply Kd.R_alloc | apply Kd.R_drewN | apply Kd.R_drew)); exact HO125.out))) (Kd.R_lt (by (with_reducible repeat (first | apply Kd.R_alloc | apply Kd.R_drewN | apply Kd.R_drew)); exact HO137.out))) (Kd.R_lt (by (with_reducible repeat (first | apply Kd.R_alloc | apply Kd.R_drewN | apply Kd.R_drew)); exact HO141.out))) (Kd.R_lt (by (with_reducible repeat (first | apply Kd.R_alloc | apply Kd.R_drewN | apply Kd.R_drew)); exact HO148.out))) (Kd.R_lt (by (with_reducible repeat (first | apply Kd.R_alloc | apply Kd.R_drewN | apply Kd.R_drew)); exact HO155.out))) (Kd.R_lt (by (with_reducible repeat (first | apply Kd.R_alloc | apply Kd.R_drewN | apply Kd.R_drew)); exact HO162.out))) (Kd.R_lt (by (with_reducible repeat (first | apply Kd.R_alloc | apply Kd.R_drewN | apply Kd.R_drew)); exact HO169.out))) (Kd.R_lt (by (with_reducible repeat (first | apply Kd.R_alloc | apply Kd.R_drewN | apply Kd.R_drew)); exact HO173.out))) (Kd.R_lt (by (with_reducible repeat (first | apply Kd.R_alloc | apply Kd.R_drewN | apply Kd.R_drew)); exact HO177.out))) (below_size (by repeat (first | (with_reducible first | exact HB.out | apply below_alloc | apply pw_below_drewN | apply below_drew1) | exact HB.out)))); have n16_ := Aside0.mk (below_step (by repeat (first | (with_reducible first | exact HB.out | apply below_alloc | apply pw_below_drewN | apply below_drew1) | exact HB.out)) hb); clear HO125; clear HO129; clear HO133; clear HO137; clear HO141; clear HO144; clear HO148; clear HO151; clear HO155; clear HO158; clear HO162; clear HO165; clear HO169; clear HO173; clear HO177; clear HB; have HO125 := n0_; have HO129 := n1_; have HO133 := n2_; have HO137 := n3_; have HO141 := n4_; have HO144 := n5_; have HO148 := n6_; have HO151 := n7_; have HO155 := n8_; have HO158 := n9_; have HO162 := n10_; have HO165 := n11_; have HO169 := n12_; have HO173 := n13_; have HO177 := n14_; have HO180 := n15_; have HB := n16_; clear n0_ n1_ n2_ n3_ n4_ n5_ n6_ n7_ n8_ n9_ n10_ n11_ n12_ n13_ n14_ n15_ n16_; clear hb ho66; obtain ⟨Ao67, co67, eo67⟩ := Kd.R_slice HO180.out; subst eo67) | ((with_reducible refine gate_callee (f := 11) rfl ?_); refine goesL_ (some 70) rfl rfl Try.func11 (by kernel_rfl) rfl #[.slice Ao67 y178.length co67, .int .i64 64] rfl (by (try simp only [List.map_toArray, List.map_cons, List.map_nil]); first | done | rfl | (simp only [List.length_drop, List.length_take]; rfl)) ?_; (with_reducible refine (bits_Pack.calls k _ _ y178 64 t181 t182 _ ?side1 ?side2 A11.out).mono ?_); (case side1 => repeat (first | exact (Kd.R_reads' HO180.out).2.2 | (with_reducible refine Kd.C_alloc ?_ _) | (with_reducible refine Kd.C_drewN ?_ _) | (with_reducible refine Kd.C_drew ?_))); (case side2 => exact (Kd.R_reads' HO180.out).2.1); rintro e w68 ⟨v183, rfl, ho0, hb⟩; refine ⟨_, rfl, ?_⟩; have n0_ := Aside0.mk (Kd.R_below (by (with_reducible repeat (first | apply Kd.R_alloc | apply Kd.R_drewN | apply Kd.R_drew)); exact HO125.out) hb); have n1_ := Aside0.mk (Kd.R_elder' (by (with_reducible repeat (first | apply Kd.R_alloc | apply Kd.R_drewN | apply Kd.R_drew)); exact HO129.out) (Kd.R_base ho0) hb); have n3_ := Aside0.mk (Kd.R_below (by (with_reducible repeat (first | apply Kd.R_alloc | apply Kd.R_drewN | apply Kd.R_drew)); exact HO137.out) hb); have n4_ := Aside0.mk (Kd.R_below (by (with_reducible repeat (first | apply Kd.R_alloc | apply Kd.R_drewN | apply Kd.R_drew)); exact HO141.out) hb); have n6_ := Aside0.mk (Kd.R_below (by (with_reducible repeat (first | apply Kd.R_alloc | apply Kd.R_drewN | apply Kd.R_drew)); exact HO148.out) hb); have n8_ := Aside0.mk (Kd.R_below (by (with_reducible repeat (first | apply Kd.R_alloc | apply Kd.R_drewN | apply Kd.R_drew)); exact HO155.out) hb); have n10_ := Aside0.mk (Kd.R_below (by (with_reducible repeat (first | apply Kd.R_alloc | apply Kd.R_drewN | apply Kd.R_drew)); exact HO162.out) hb); have n12_ := Aside0.mk (Kd.R_below (by (with_reducible repeat (first | apply Kd.R_alloc | apply Kd.R_drewN | apply Kd.R_drew)); exact HO169.out) hb); have n13_ := Aside0.mk (Kd.R_below (by (with_reducible repeat (first | apply Kd.R_alloc | apply Kd.R_drewN | apply Kd.R_drew)); exact HO173.out) hb); have n14_ := Aside0.mk (Kd.R_below (by (with_reducible repeat (first | apply Kd.R_alloc | apply Kd.R_drewN | apply Kd.R_drew)); exact HO177.out) hb); have n15_ := Aside0.mk (Kd.R_below (by (with_reducible repeat (first | apply Kd.R_alloc | apply Kd.R_drewN | apply Kd.R_drew)); exact HO180.out) hb); have n16_ := Aside0.mk (Kd.R_lower (Kd.R_new' (Kd.R_new' (Kd.R_new' (Kd.R_new' (Kd.R_new' (Kd.R_new' ho0 (Kd.R_lt (by (with_reducible repeat (first | apply Kd.R_alloc | apply Kd.R_drewN | apply Kd.R_drew)); exact HO129.out))) (Kd.R_lt (by (with_reducible repeat (first | apply Kd.R_alloc | apply Kd.R_drewN | apply Kd.R_drew)); exact HO133.out))) (Kd.R_lt (by (with_reducible repeat (first | apply Kd.R_alloc | apply Kd.R_drewN | apply Kd.R_drew)); exact HO144.out))) (Kd.R_lt (by (with_reducible repeat (first | apply Kd.R_alloc | apply Kd.R_drewN | apply Kd.R_drew)); exact HO151.out))) (Kd.R_lt (by (with_reducible repeat (first | apply Kd.R_alloc | apply Kd.R_drewN | apply Kd.R_drew)); exact HO158.out))) (Kd.R_lt (by (with_reducible repeat (first | apply Kd.R_alloc | apply Kd.R_drewN | apply Kd.R_drew)); exact HO165.out))) (below_size (by repeat (first | (with_reducible first | exact HB.out | apply below_alloc | apply pw_below_drewN | apply below_drew1) | exact HB.out)))); have n17_ := Aside0.mk (below_step (by repeat (first | (with_reducible first | exact HB.out | apply below_alloc | apply pw_below_drewN | apply below_drew1) | exact HB.out)) hb); clear HO125; clear HO129; clear HO133; clear HO137; clear HO141; clear HO144; clear HO148; clear HO151; clear HO155; clear HO158; clear HO162; clear HO165; clear HO169; clear HO173; clear HO177; clear HO180; clear HB; have HO125 := n0_; have HO129 := n1_; have HO137 := n3_; have HO141 := n4_; have HO148 := n6_; have HO155 := n8_; have HO162 := n10_; have HO169 := n12_; have HO173 := n13_; have HO177 := n14_; have HO180 := n15_; have HO184 := n16_; have HB := n17_; clear n0_ n1_ n3_ n4_ n6_ n8_ n10_ n12_ n13_ n14_ n15_ n16_ n17_; (try clear hb); (try clear hb2); (try clear hk); (try clear hi); (try clear ho0); obtain ⟨Ao69, co69, eo69⟩ := Kd.R_slice HO129.out; subst eo69; obtain ⟨Ao70, co70, eo70⟩ := Kd.R_slice HO169.out; subst eo70; have p185 : 0 ≤ (0 : Int) := (by omega); have q185 : 0 < (t166.length : Int) := of_decide_eq_true (by first | (with_reducible assumption) | assumption); obtain ⟨ad185, e185, hx185_0⟩ := Kd.at_int (Kd.R_reads' HO169.out).2.2 0 p185 q185; cases e185; have qi185 : (0 < t166.length) = True := eq_true (by omega); (try rw [show ((0 : Int)).toNat = 0 from rfl] at hx185_0); (try rw [Addr.add_zero'] at hx185_0); replace p185 := eq_true p185; replace q185 := eq_true q185; obtain ⟨Ao71, co71, eo71⟩ := Kd.R_slice HO173.out; subst eo71; obtain ⟨Ao72, co72, eo72⟩ := Kd.R_slice HO184.out; subst eo72) | ((with_reducible refine gate_dst (N := 146) rfl ?_); (try (refine gate_guard (by rfl) ?_; dsimp only)); refine Kd.R_lit (Kd.int .u64) _ 29 ?hg (N := 146) ?hd (xs := ([9223372036854775808] : List Int)) (inner := [.int .u64 9223372036854775808]) (ok := fun _ => True) (okp := fun _ => True) ?hr ?hp (fun _ hk => hk) trivial (Below.refl _ _) (Nat.le_refl _) (by simp) ?_; (case hd => rfl); (case hg => rfl); (case hr => first | (go_simp; done) | (go_simp; rfl)); (case hp => exact (Reps.one (show Kd.M (Kd.int .u64) _ _ _ 9223372036854775808 [.int .u64 9223372036854775808] from rfl) (Reps.none _ _))); intro v188 w73 ho74 hb hg_ hnew_; clear hg_ hnew_; (first | rw [← Ny187.out] at ho74 | (simp only [Int.reduceToNat] at ho74; rw [← Ny187.out] at ho74)); have n17_ := Aside0.mk (Kd.R_lower (Kd.R_new' (Kd.R_new' (Kd.R_new' (Kd.R_new' (Kd.R_new' (Kd.R_new' (Kd.R_new' (Kd.R_new' (Kd.R_new' (Kd.R_new' ho74 (Kd.R_lt (by (with_reducible repeat (first | apply Kd.R_alloc | apply Kd.R_drewN | apply Kd.R_drew)); exact HO125.out))) (Kd.R_lt (by (with_reducible repeat (first | apply Kd.R_alloc | apply Kd.R_drewN | apply Kd.R_drew)); exact HO137.out))) (Kd.R_lt (by (with_reducible repeat (first | apply Kd.R_alloc | apply Kd.R_drewN | apply Kd.R_drew)); exact HO141.out))) (Kd.R_lt (by (with_reducible repeat (first | apply Kd.R_alloc | apply Kd.R_drewN | apply Kd.R_drew)); exact HO148.out))) (Kd.R_lt (by (with_reducible repeat (first | apply Kd.R_alloc | apply Kd.R_drewN | apply Kd.R_drew)); exact HO155.out))) (Kd.R_lt (by (with_reducible repeat (first | apply Kd.R_alloc | apply Kd.R_drewN | apply Kd.R_drew)); exact HO162.out))) (Kd.R_lt (by (with_reducible repeat (first | apply Kd.R_alloc | apply Kd.R_drewN | apply Kd.R_drew)); exact HO169.out))) (Kd.R_lt (by (with_reducible repeat (first | apply Kd.R_alloc | apply Kd.R_drewN | apply Kd.R_drew)); exact HO173.out))) (Kd.R_lt (by (with_reducible repeat (first | apply Kd.R_alloc | apply Kd.R_drewN | apply Kd.R_drew)); exact HO177.out))) (Kd.R_lt (by (with_reducible repeat (first | apply Kd.R_alloc | apply Kd.R_drewN | apply Kd.R_drew)); exact HO180.out))) (below_size (by repeat (first | (with_reducible first | exact HB.out | apply below_alloc | apply pw_below_drewN | apply below_drew1) | exact HB.out)))); have n18_ := Aside0.mk (below_step (by repeat (first | (with_reducible first | exact HB.out | apply below_alloc | apply pw_below_drewN | apply below_drew1) | exact HB.out)) hb); clear HO125; clear HO137; clear HO141; clear HO148; clear HO155; clear HO162; clear HO169; clear HO173; clear HO177; clear HO180; clear HB; have HO189 := n17_; have HB := n18_; clear n17_ n18_; clear hb ho74; obtain ⟨Ao75, co75, eo75⟩ := Kd.R_slice HO189.out; subst eo75) | (go_at_call 10; (with_reducible refine (bits_Width.calls k _ _ y187 t190 _ ?side1 ?side2 A31.out).mono ?_); (case side1 => repeat (first | exact (Kd.R_reads' HO189.out).2.2 | (with_reducible refine Kd.C_alloc ?_ _) | (with_reducible refine Kd.C_drewN ?_ _) | (with_reducible refine Kd.C_drew ?_))); (case side2 => exact (Kd.R_reads' HO189.out).2.1); rintro e w' ⟨rfl, ⟨nd, rfl⟩⟩) | (go_at_call 15; (with_reducible refine (bits_Size.calls 3 3 t191 _ A33.out).mono ?_); rintro e w' ⟨rfl, ⟨nd, rfl⟩⟩) | (go_at_call 15; (with_reducible refine (bits_Size.calls (-1) 3 t192 _ A35.out).mono ?_); rintro e w' ⟨rfl, ⟨nd, rfl⟩⟩) | (go_at_call 15; (with_reducible refine (bits_Size.calls 16777217 1 t193 _ A37.out).mono ?_); rintro e w' ⟨rfl, ⟨nd, rfl⟩⟩) | (go_at_call 12; (with_reducible refine (columbariumlaw3_known.calls k  t194 _ A39.out).mono ?_); rintro e w76 ⟨rfl, hb⟩; have n18_ := Aside0.mk (below_step (by repeat (first | (with_reducible first | exact HB.out | apply below_alloc | apply pw_below_drewN | apply below_drew1) | exact HB.out)) hb); clear HB; have HB := n18_; clear n18_; (try clear hb); (try clear hb2); (try clear hk); (try clear hi))| (go_at_call 10; (refine (bits_Width.calls k _ _ ([] : List Int) t186 _ ?side1 ?side2 A29.out).mono ?_); (case side1 => exact Kd.C_nil _ _); (case side2 => exact Nat.le_refl _); rintro e w' ⟨rfl, ⟨nd, rfl⟩⟩) )
                                              go_ret
                                              exact ⟨by first | rfl | (simp [errW_none, errW_some] <;> rfl) | (simp [*, errW_none, errW_some] <;> rfl), by repeat (first | (with_reducible first | exact HB.out | apply below_alloc | apply pw_below_drewN | apply below_drew1) | exact HB.out)⟩
                                            · rw [if_neg c38] at H
                                              have c38b0 : (t193 == 0) = false := beq_eq_false_iff_ne.mpr c38
                                              have c38b1 : (t193 != 0) = true := bne_iff_ne.mpr c38
                                              exact absurd ((Option.some.inj H).trans hrt_.out) (by decide)
                                          · rw [if_neg c36] at H
                                            have c36b0 : (t192 == 0) = false := beq_eq_false_iff_ne.mpr c36
                                            have c36b1 : (t192 != 0) = true := bne_iff_ne.mpr c36
                                            exact absurd ((Option.some.inj H).trans hrt_.out) (by decide)
                                        · rw [if_neg c34] at H
                                          have c34b0 : (t191 == 2) = false := beq_eq_false_iff_ne.mpr c34
                                          have c34b1 : (t191 != 2) = true := bne_iff_ne.mpr c34
                                          exact absurd ((Option.some.inj H).trans hrt_.out) (by decide)
                                      · rw [if_neg c32] at H
                                        have c32b0 : (t190 == 64) = false := beq_eq_false_iff_ne.mpr c32
                                        have c32b1 : (t190 != 64) = true := bne_iff_ne.mpr c32
                                        exact absurd ((Option.some.inj H).trans hrt_.out) (by decide)
                                    · rw [if_neg c30] at H
                                      have c30b0 : (t186 == 0) = false := beq_eq_false_iff_ne.mpr c30
                                      have c30b1 : (t186 != 0) = true := bne_iff_ne.mpr c30
                                      exact absurd ((Option.some.inj H).trans hrt_.out) (by decide)
                                  · rw [if_neg c28] at H
                                    have c28b0 : (t182 == 0) = false := beq_eq_false_iff_ne.mpr c28
                                    have c28b1 : (t182 != 0) = true := bne_iff_ne.mpr c28
                                    exact absurd ((Option.some.inj H).trans hrt_.out) (by decide)
                                · rw [if_neg c27] at H
                                  have c27b0 : ((t181.length : Int) == 16) = false := beq_eq_false_iff_ne.mpr c27
                                  have c27b1 : ((t181.length : Int) != 16) = true := bne_iff_ne.mpr c27
                                  exact absurd ((Option.some.inj H).trans hrt_.out) (by decide)
                              · rw [if_neg c26] at H
                                have c26b0 : (t175 == 1) = false := beq_eq_false_iff_ne.mpr c26
                                have c26b1 : (t175 != 1) = true := bne_iff_ne.mpr c26
                                exact absurd ((Option.some.inj H).trans hrt_.out) (by decide)
                            · rw [if_neg c25] at H
                              have c25b0 : (t171 == 0) = false := beq_eq_false_iff_ne.mpr c25
                              have c25b1 : (t171 != 0) = true := bne_iff_ne.mpr c25
                              exact absurd ((Option.some.inj H).trans hrt_.out) (by decide)
                          · rw [if_neg c24] at H
                            have c24b0 : ((t170.length : Int) == 5) = false := beq_eq_false_iff_ne.mpr c24
                            have c24b1 : ((t170.length : Int) != 5) = true := bne_iff_ne.mpr c24
                            exact absurd ((Option.some.inj H).trans hrt_.out) (by decide)
                        · rw [if_neg c23] at H
                          have c23b0 : ((rd t166 0) == 3) = false := beq_eq_false_iff_ne.mpr c23
                          have c23b1 : ((rd t166 0) != 3) = true := bne_iff_ne.mpr c23
                          exact absurd ((Option.some.inj H).trans hrt_.out) (by decide)
                      · rw [if_neg c22] at H
                        exact absurd H (by simp)
                    · rw [if_neg c21] at H
                      have c21b0 : ((t166.length : Int) == 1) = false := beq_eq_false_iff_ne.mpr c21
                      have c21b1 : ((t166.length : Int) != 1) = true := bne_iff_ne.mpr c21
                      exact absurd ((Option.some.inj H).trans hrt_.out) (by decide)
                  · rw [if_neg c20] at H
                    have c20b0 : (t167 == 0) = false := beq_eq_false_iff_ne.mpr c20
                    have c20b1 : (t167 != 0) = true := bne_iff_ne.mpr c20
                    exact absurd ((Option.some.inj H).trans hrt_.out) (by decide)
                · rw [if_neg c19] at H
                  have c19b0 : (t160 == 12) = false := beq_eq_false_iff_ne.mpr c19
                  have c19b1 : (t160 != 12) = true := bne_iff_ne.mpr c19
                  exact absurd ((Option.some.inj H).trans hrt_.out) (by decide)
              · rw [if_neg c18] at H
                have c18b0 : (t153 == 11) = false := beq_eq_false_iff_ne.mpr c18
                have c18b1 : (t153 != 11) = true := bne_iff_ne.mpr c18
                exact absurd ((Option.some.inj H).trans hrt_.out) (by decide)
            · rw [if_neg c17] at H
              have c17b0 : (t146 == 10) = false := beq_eq_false_iff_ne.mpr c17
              have c17b1 : (t146 != 10) = true := bne_iff_ne.mpr c17
              exact absurd ((Option.some.inj H).trans hrt_.out) (by decide)
          · rw [if_neg c16] at H
            have c16b0 : (t139 == 1) = false := beq_eq_false_iff_ne.mpr c16
            have c16b1 : (t139 != 1) = true := bne_iff_ne.mpr c16
            exact absurd ((Option.some.inj H).trans hrt_.out) (by decide)
        · rw [if_neg c15] at H
          have c15b0 : (t135 == 15) = false := beq_eq_false_iff_ne.mpr c15
          have c15b1 : (t135 != 15) = true := bne_iff_ne.mpr c15
          exact absurd ((Option.some.inj H).trans hrt_.out) (by decide)
      · rw [if_neg c14] at H
        have c14b0 : (t131 == 15) = false := beq_eq_false_iff_ne.mpr c14
        have c14b1 : (t131 != 15) = true := bne_iff_ne.mpr c14
        exact absurd ((Option.some.inj H).trans hrt_.out) (by decide)
    · rw [if_neg c13] at H
      have c13b0 : (t127 == 0) = false := beq_eq_false_iff_ne.mpr c13
      have c13b1 : (t127 != 0) = true := bne_iff_ne.mpr c13
      exact absurd ((Option.some.inj H).trans hrt_.out) (by decide)
  · rw [if_neg c12] at H
    have c12b0 : ((t126.length : Int) == 0) = false := beq_eq_false_iff_ne.mpr c12
    have c12b1 : ((t126.length : Int) != 0) = true := bne_iff_ne.mpr c12
    have c12b2 : ¬ (t126 = []) := fun h_ => c12 (by rw [h_]; rfl)
    exact absurd ((Option.some.inj H).trans hrt_.out) (by decide)

/-- THE ONE PURE STATEMENT of columbariumlaw3_BitsNumbers: yours. -/
def columbariumlaw3_BitsNumbers.Pure : Prop := ∃ k, columbariumlaw3_BitsNumbers.f k  = some true
theorem columbariumlaw3_BitsNumbers.walk (P : columbariumlaw3_BitsNumbers.Pure)  (w : World)  :
    Calls Try.prog 5 #[] w fun e w' => e = .returned (.bool true) ∧ Below w.heap.size w w' := by
  obtain ⟨k, h⟩ := P  
  refine (columbariumlaw3_BitsNumbers.calls k  true w ⟨rfl⟩ h).mono ?_
  rintro e w' ⟨rfl, hd⟩
  exact ⟨rfl, hd⟩

end Go.Proofs.Ytlalckngngppfaa.QBitsNumbers
