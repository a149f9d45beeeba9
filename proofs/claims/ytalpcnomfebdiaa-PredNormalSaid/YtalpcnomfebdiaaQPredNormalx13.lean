-- Written by a program of this session (wip/myprint.py): the machine's side of a law
import Derived.Test.YtalpcnomfebdiaaQPredNormalx0
namespace Go.Proofs.Ytalpcnomfebdiaa.QPredNormal
open Go.RowKit Go.Proofs.YtalpcnomfebdiaaW.PrintWords Go.Proofs.YtalpcnomfebdiaaW.PrintLast Go.Proofs.YtalpcnomfebdiaaW.PrintMore
attribute [local go_sem] max2_int min2_int max_two min_two max_three min_three max_four min_four   -- for this text's walks alone
set_option linter.unusedVariables false
set_option linter.unusedSimpArgs false

/-! ### columbariumkeep_Short: function 13 -/
mutual
def columbariumkeep_Short.l0 : Nat → List (S36) → Int → List (S36) → Int → Option ((List (S36)))
 | 0, _, _, _, _ => none
 | k + 1, x0, x1, x5, x6 => if x6 < (x0.length : Int) then (columbariumkeep_Short.j1 k x0 x1 x5 x6 (decide (x6 < x1))) else (columbariumkeep_Short.j1 k x0 x1 x5 x6 false)
def columbariumkeep_Short.j1 : Nat → List (S36) → Int → List (S36) → Int → Bool → Option ((List (S36)))
 | 0, _, _, _, _, _ => none
 | k + 1, x0, x1, x5, x6, x18 => if x18 = true then (if 0 ≤ x6 then (if x6 < (x0.length : Int) then ((some (([] : List (S52)) : List (S52))).bind fun y411 => (if y411.length + ((rd_T36 x0 x6).f2).length < 2932031007402 then ((some (y411 ++ ((rd_T36 x0 x6).f2) : List (S52))).bind fun y414 => (if (y414.length : Int) > 10 then (if 10 ≤ (y414.length : Int) then (columbariumkeep_Short.j2 k x0 x1 x5 x6 (y414.take (10 : Int).toNat) ((rd_T36 x0 x6).f0) ((rd_T36 x0 x6).f1) ((rd_T36 x0 x6).f2)) else (none)) else (columbariumkeep_Short.j2 k x0 x1 x5 x6 y414 ((rd_T36 x0 x6).f0) ((rd_T36 x0 x6).f1) ((rd_T36 x0 x6).f2)))) else (none))) else (none)) else (none)) else (some x5)
def columbariumkeep_Short.j2 : Nat → List (S36) → Int → List (S36) → Int → List (S52) → Int → Int → List (S52) → Option ((List (S36)))
 | 0, _, _, _, _, _, _, _, _ => none
 | k + 1, x0, x1, x5, x6, x8, x411000, x411001, x411002 => columbariumkeep_Short.l1 k x0 x1 x5 x6 x8 0 x411000 x411001 x411002
def columbariumkeep_Short.l1 : Nat → List (S36) → Int → List (S36) → Int → List (S52) → Int → Int → Int → List (S52) → Option ((List (S36)))
 | 0, _, _, _, _, _, _, _, _, _ => none
 | k + 1, x0, x1, x5, x6, x8, x9, x411000, x411001, x411002 => if x9 < (x8.length : Int) then (if 0 ≤ x9 then (if (((rd_T52 x8 x9).f3).size : Int) > 41 then (if 0 ≤ 41 then (if 41 ≤ (((rd_T52 x8 x9).f3).size : Int) then ((some (x8.set (x9 : Int).toNat (⟨(rd_T52 x8 x9).f0, (rd_T52 x8 x9).f1, (rd_T52 x8 x9).f2, ((rd_T52 x8 x9).f3).extract 0 41⟩ : S52) : List (S52))).bind fun y425 => (if (((rd_T52 y425 x9).f0).size : Int) > 20 then (if 0 ≤ 20 then (if 20 ≤ (((rd_T52 y425 x9).f0).size : Int) then (columbariumkeep_Short.l1 k x0 x1 x5 x6 (y425.set (x9 : Int).toNat (⟨((rd_T52 y425 x9).f0).extract 0 20, (rd_T52 y425 x9).f1, (rd_T52 y425 x9).f2, (rd_T52 y425 x9).f3⟩ : S52)) (wrap64 (x9 + 1)) x411000 x411001 x411002) else (none)) else (none)) else (columbariumkeep_Short.l1 k x0 x1 x5 x6 y425 (wrap64 (x9 + 1)) x411000 x411001 x411002))) else (none)) else (none)) else (if (((rd_T52 x8 x9).f0).size : Int) > 20 then (if 0 ≤ 20 then (if 20 ≤ (((rd_T52 x8 x9).f0).size : Int) then (columbariumkeep_Short.l1 k x0 x1 x5 x6 (x8.set (x9 : Int).toNat (⟨((rd_T52 x8 x9).f0).extract 0 20, (rd_T52 x8 x9).f1, (rd_T52 x8 x9).f2, (rd_T52 x8 x9).f3⟩ : S52)) (wrap64 (x9 + 1)) x411000 x411001 x411002) else (none)) else (none)) else (columbariumkeep_Short.l1 k x0 x1 x5 x6 x8 (wrap64 (x9 + 1)) x411000 x411001 x411002))) else (none)) else (if x5.length < 3518437208883 then (columbariumkeep_Short.l0 k x0 x1 (x5 ++ [(⟨x411000, x411001, x8⟩ : S36)]) (wrap64 (x6 + 1))) else (none))
end
def columbariumkeep_Short.f (k : Nat) (l0 : List (S36)) (a1 : Int) : Option ((List (S36))) := columbariumkeep_Short.l0 k l0 a1 ([] : List (S36)) 0
theorem ob_len {k n m c : Nat} {A : Option Addr} (h : some k ≠ (Value.slice A n c).ownBlock) : some k ≠ (Value.slice A m c).ownBlock := by cases A <;> exact h
theorem columbariumkeep_Short.mono_l : ∀ k, (∀ y0 y1 y2 y3, LeO (columbariumkeep_Short.l0 k y0 y1 y2 y3) (columbariumkeep_Short.l0 (k + 1) y0 y1 y2 y3)) ∧ (∀ y0 y1 y2 y3 y4, LeO (columbariumkeep_Short.j1 k y0 y1 y2 y3 y4) (columbariumkeep_Short.j1 (k + 1) y0 y1 y2 y3 y4)) ∧ (∀ y0 y1 y2 y3 y4 y5 y6 y7, LeO (columbariumkeep_Short.j2 k y0 y1 y2 y3 y4 y5 y6 y7) (columbariumkeep_Short.j2 (k + 1) y0 y1 y2 y3 y4 y5 y6 y7)) ∧ (∀ y0 y1 y2 y3 y4 y5 y6 y7 y8, LeO (columbariumkeep_Short.l1 k y0 y1 y2 y3 y4 y5 y6 y7 y8) (columbariumkeep_Short.l1 (k + 1) y0 y1 y2 y3 y4 y5 y6 y7 y8))
 | 0 => ⟨fun _ _ _ _ r h => by simp [columbariumkeep_Short.l0] at h, fun _ _ _ _ _ r h => by simp [columbariumkeep_Short.j1] at h, fun _ _ _ _ _ _ _ _ r h => by simp [columbariumkeep_Short.j2] at h, fun _ _ _ _ _ _ _ _ _ r h => by simp [columbariumkeep_Short.l1] at h⟩
 | k + 1 => by
  obtain ⟨ih0, ih1, ih2, ih3⟩ := columbariumkeep_Short.mono_l k
  refine ⟨?_, ?_, ?_, ?_⟩
  ·intro y0 y1 y2 y3
   unfold columbariumkeep_Short.l0
   repeat' first
   | (with_reducible exact ih0 _ _ _ _)
   | (with_reducible exact ih1 _ _ _ _ _)
   | (with_reducible exact ih2 _ _ _ _ _ _ _ _)
   | (with_reducible exact ih3 _ _ _ _ _ _ _ _ _)
   | (with_reducible exact LeO.refl _)
   | (with_reducible exact LeO.none _)
   | (with_reducible refine LeO.ite ?_ ?_)
   | (with_reducible refine LeO.bind ?_ (fun _ => ?_))
   | exact ih0 _ _ _ _
   | exact ih1 _ _ _ _ _
   | exact ih2 _ _ _ _ _ _ _ _
   | exact ih3 _ _ _ _ _ _ _ _ _
   | exact LeO.none _
   | refine LeO.ite ?_ ?_
   | refine LeO.bind ?_ (fun _ => ?_)
  ·intro y0 y1 y2 y3 y4
   unfold columbariumkeep_Short.j1
   repeat' first
   | (with_reducible exact ih0 _ _ _ _)
   | (with_reducible exact ih1 _ _ _ _ _)
   | (with_reducible exact ih2 _ _ _ _ _ _ _ _)
   | (with_reducible exact ih3 _ _ _ _ _ _ _ _ _)
   | (with_reducible exact LeO.refl _)
   | (with_reducible exact LeO.none _)
   | (with_reducible refine LeO.ite ?_ ?_)
   | (with_reducible refine LeO.bind ?_ (fun _ => ?_))
   | exact ih0 _ _ _ _
   | exact ih1 _ _ _ _ _
   | exact ih2 _ _ _ _ _ _ _ _
   | exact ih3 _ _ _ _ _ _ _ _ _
   | exact LeO.none _
   | refine LeO.ite ?_ ?_
   | refine LeO.bind ?_ (fun _ => ?_)
  ·intro y0 y1 y2 y3 y4 y5 y6 y7
   unfold columbariumkeep_Short.j2
   repeat' first
   | (with_reducible exact ih0 _ _ _ _)
   | (with_reducible exact ih1 _ _ _ _ _)
   | (with_reducible exact ih2 _ _ _ _ _ _ _ _)
   | (with_reducible exact ih3 _ _ _ _ _ _ _ _ _)
   | (with_reducible exact LeO.refl _)
   | (with_reducible exact LeO.none _)
   | (with_reducible refine LeO.ite ?_ ?_)
   | (with_reducible refine LeO.bind ?_ (fun _ => ?_))
   | exact ih0 _ _ _ _
   | exact ih1 _ _ _ _ _
   | exact ih2 _ _ _ _ _ _ _ _
   | exact ih3 _ _ _ _ _ _ _ _ _
   | exact LeO.none _
   | refine LeO.ite ?_ ?_
   | refine LeO.bind ?_ (fun _ => ?_)
  ·intro y0 y1 y2 y3 y4 y5 y6 y7 y8
   unfold columbariumkeep_Short.l1
   repeat' first
   | (with_reducible exact ih0 _ _ _ _)
   | (with_reducible exact ih1 _ _ _ _ _)
   | (with_reducible exact ih2 _ _ _ _ _ _ _ _)
   | (with_reducible exact ih3 _ _ _ _ _ _ _ _ _)
   | (with_reducible exact LeO.refl _)
   | (with_reducible exact LeO.none _)
   | (with_reducible refine LeO.ite ?_ ?_)
   | (with_reducible refine LeO.bind ?_ (fun _ => ?_))
   | exact ih0 _ _ _ _
   | exact ih1 _ _ _ _ _
   | exact ih2 _ _ _ _ _ _ _ _
   | exact ih3 _ _ _ _ _ _ _ _ _
   | exact LeO.none _
   | refine LeO.ite ?_ ?_
   | refine LeO.bind ?_ (fun _ => ?_)
theorem columbariumkeep_Short.mono : ∀ a0 a1 k, LeO (columbariumkeep_Short.f k a0 a1) (columbariumkeep_Short.f (k + 1) a0 a1) := by
 intro a0 a1 k
 obtain ⟨ih0, ih1, ih2, ih3⟩ := columbariumkeep_Short.mono_l k
 unfold columbariumkeep_Short.f
 repeat' first
   | (with_reducible exact ih0 _ _ _ _)
   | (with_reducible exact ih1 _ _ _ _ _)
   | (with_reducible exact ih2 _ _ _ _ _ _ _ _)
   | (with_reducible exact ih3 _ _ _ _ _ _ _ _ _)
   | (with_reducible exact LeO.refl _)
   | (with_reducible exact LeO.none _)
   | (with_reducible refine LeO.ite ?_ ?_)
   | (with_reducible refine LeO.bind ?_ (fun _ => ?_))
   | exact ih0 _ _ _ _
   | exact ih1 _ _ _ _ _
   | exact ih2 _ _ _ _ _ _ _ _
   | exact ih3 _ _ _ _ _ _ _ _ _
   | exact LeO.none _
   | refine LeO.ite ?_ ?_
   | refine LeO.bind ?_ (fun _ => ?_)
set_option maxHeartbeats 8000000 in
set_option maxRecDepth 100000 in
theorem columbariumkeep_Short.calls (k : Nat) (A0 : Option Addr) (c0 : Nat) (l0 : List (S36)) (a1 : Int) (r : List (S36)) (w : World) (hr0 : Kd.C k36 w A0 l0.length l0) (hc0 : l0.length ≤ c0) (h : columbariumkeep_Short.f k l0 a1 = some r) :
  Calls Try.prog 13 #[.slice A0 l0.length c0, .int .i64 a1] w fun e w' => ∃ v0_ : Value, e = .returned (v0_) ∧ Kd.S k36 36 w' w.heap.size (fun _ => True) v0_ r ∧ Below w.heap.size w w' := by
 have hu36 := Try.underlying36
 have HR0 := zM hr0
 have HC0 := zM hc0
 clear hr0 hc0
 have HB := zM (Below.refl w.heap.size w)
 have H : (columbariumkeep_Short.l0 k l0 a1 ([] : List (S36)) 0) = some r := h
 clear h
 have H' := Aside0.mk H
 clear H
 go_enter Try.func13, Try.ntmps13
 go_wp2
 go_loopg [5, 6] k (fun kq v5 v6 w' => ∃ (x5_1 : List (S36)) (x6_1 : Int), v6 = .int .i64 x6_1 ∧ Aside0 (columbariumkeep_Short.l0 kq l0 a1 x5_1 x6_1 = some r) ∧ Aside0 (kq ≤ k) ∧ Aside0 (Kd.S k36 36 w' w.heap.size (fun _ => True) v5 x5_1) ∧ Aside0 (Below w.heap.size w w'))
 case atStart => exact ⟨(([] : List (S36))), (0), ya, H', ⟨Nat.le_refl _⟩, ⟨by first | exact Kd.S_nil _ _ _ _ _ | exact Kd.N_nil _ _ _ _ _ | exact Kd.V_nil _ _ _ _ _ | exact Kd.Q_nil _ _ _ _ _ | exact Kd.R_nil _ _ _ _ _⟩, ⟨mB HB.out⟩⟩
 case round =>
  clear H'
  obtain ⟨x5_1, x6_1, rfl, HA, HK1, HO_5, HB⟩ := hrel
  cases gk with
  | zero => exact absurd HA.out (by simp [columbariumkeep_Short.l0])
  | succ k1 =>
   have H := HA.out
   clear HA
   simp only [columbariumkeep_Short.l0] at H
   have HC3 := zM H
   clear H
   go_upto_region 3 with (fail)
   go_cut [18] (fun v18 wc => ∃ (kq : Nat) (x18_2 : Bool), v18 = .bool x18_2 ∧ Aside0 (columbariumkeep_Short.j1 kq l0 a1 x5_1 x6_1 x18_2 = some r) ∧ Aside0 (kq ≤ k1) ∧ Aside0 (Kd.S k36 36 wc w.heap.size (fun _ => True) u5 x5_1) ∧ Aside0 (Below w.heap.size w wc))
   case first =>
    have H := HC3.out
    clear HC3
    by_cases c4 : x6_1 < (l0.length : Int)
    ·rw [if_pos c4] at H
     have c4b0 : decide (x6_1 < (l0.length : Int)) = true := decide_eq_true c4
     clear c4
     (first | rw [c4b0] | rw [c4b1] | (simp only [i64_w, i32_w]; rw [c4b0]) | skip)
     have H' := Aside0.mk H
     clear H
     go_wp2
     go_meet
     case rel => exact ⟨_, (decide (x6_1 < a1)), ya, H', ⟨by have := HK1.out; first | omega | exact Nat.le_refl _⟩, ⟨mS HO_5.out⟩, ⟨mB HB.out⟩⟩
    ·rw [if_neg c4] at H
     have c4b0 : decide (x6_1 < (l0.length : Int)) = false := decide_eq_false c4
     clear c4
     (first | rw [c4b0] | rw [c4b1] | (simp only [i64_w, i32_w]; rw [c4b0]) | skip)
     have H' := Aside0.mk H
     clear H
     go_wp2
     go_meet
     case rel => exact ⟨_, (false), ya, H', ⟨by have := HK1.out; first | omega | exact Nat.le_refl _⟩, ⟨mS HO_5.out⟩, ⟨mB HB.out⟩⟩
   case rest =>
    clear HC3
    try clear c4
    try clear c4b0
    try clear c4b1
    obtain ⟨kq, x18_2, rfl, HA, HJ2, HO_5, HB⟩ := hcut
    cases kq with
    | zero => exact absurd HA.out (by simp [columbariumkeep_Short.j1])
    | succ kj2 =>
     have H := HA.out
     clear HA
     simp only [columbariumkeep_Short.j1] at H
     by_cases c5 : x18_2 = true
     ·subst c5
      have H1 : (if 0 ≤ x6_1 then (if x6_1 < (l0.length : Int) then ((some (([] : List (S52)) : List (S52))).bind fun y411 => (if y411.length + ((rd_T36 l0 x6_1).f2).length < 2932031007402 then ((some (y411 ++ ((rd_T36 l0 x6_1).f2) : List (S52))).bind fun y414 => (if (y414.length : Int) > 10 then (if 10 ≤ (y414.length : Int) then (columbariumkeep_Short.j2 kj2 l0 a1 x5_1 x6_1 (y414.take (10 : Int).toNat) ((rd_T36 l0 x6_1).f0) ((rd_T36 l0 x6_1).f1) ((rd_T36 l0 x6_1).f2)) else (none)) else (columbariumkeep_Short.j2 kj2 l0 a1 x5_1 x6_1 y414 ((rd_T36 l0 x6_1).f0) ((rd_T36 l0 x6_1).f1) ((rd_T36 l0 x6_1).f2)))) else (none))) else (none)) else (none)) = some r := by rw [if_pos rfl] at H; exact H
      clear H
      have H := H1
      clear H1
      by_cases c6 : 0 ≤ x6_1
      ·rw [if_pos c6] at H
       have c6b0 : decide (0 ≤ x6_1) = true := decide_eq_true c6
       clear c6
       by_cases c7 : x6_1 < (l0.length : Int)
       ·rw [if_pos c7] at H
        have c7b0 : decide (x6_1 < (l0.length : Int)) = true := decide_eq_true c7
        clear c7
        obtain ⟨y411, hy411⟩ : ∃ y_ : List (S52), y_ = (([] : List (S52))) := ⟨_, rfl⟩
        replace H : (if y411.length + ((rd_T36 l0 x6_1).f2).length < 2932031007402 then ((some (y411 ++ ((rd_T36 l0 x6_1).f2) : List (S52))).bind fun y414 => (if (y414.length : Int) > 10 then (if 10 ≤ (y414.length : Int) then (columbariumkeep_Short.j2 kj2 l0 a1 x5_1 x6_1 (y414.take (10 : Int).toNat) ((rd_T36 l0 x6_1).f0) ((rd_T36 l0 x6_1).f1) ((rd_T36 l0 x6_1).f2)) else (none)) else (columbariumkeep_Short.j2 kj2 l0 a1 x5_1 x6_1 y414 ((rd_T36 l0 x6_1).f0) ((rd_T36 l0 x6_1).f1) ((rd_T36 l0 x6_1).f2)))) else (none)) = some r := by first | (rw [hy411]; with_reducible exact H) | (have H2_ := (Option.bind_some _ _).symm.trans H; rw [hy411]; with_reducible exact H2_) | (have H2_ := (Option.bind_some _ _).symm.trans H; with_reducible exact H2_) | with_reducible exact H | (rw [hy411]; exact H) | exact H
        have Ny411 := zM hy411
        clear hy411
        by_cases c8 : y411.length + ((rd_T36 l0 x6_1).f2).length < 2932031007402
        ·rw [if_pos c8] at H
         have LMc8 := zM c8
         clear c8
         obtain ⟨y414, hy414⟩ : ∃ y_ : List (S52), y_ = (y411 ++ ((rd_T36 l0 x6_1).f2)) := ⟨_, rfl⟩
         replace H : (if (y414.length : Int) > 10 then (if 10 ≤ (y414.length : Int) then (columbariumkeep_Short.j2 kj2 l0 a1 x5_1 x6_1 (y414.take (10 : Int).toNat) ((rd_T36 l0 x6_1).f0) ((rd_T36 l0 x6_1).f1) ((rd_T36 l0 x6_1).f2)) else (none)) else (columbariumkeep_Short.j2 kj2 l0 a1 x5_1 x6_1 y414 ((rd_T36 l0 x6_1).f0) ((rd_T36 l0 x6_1).f1) ((rd_T36 l0 x6_1).f2))) = some r := by first | (rw [hy414]; with_reducible exact H) | (have H2_ := (Option.bind_some _ _).symm.trans H; rw [hy414]; with_reducible exact H2_) | (have H2_ := (Option.bind_some _ _).symm.trans H; with_reducible exact H2_) | with_reducible exact H | (rw [hy414]; exact H) | exact H
         have Ny414 := zM hy414
         clear hy414
         have HC9 := zM H
         clear H
         have p409 : 0 ≤ (x6_1 : Int) := zA
         have q409 : x6_1 < (l0.length : Int) := zA
         obtain ⟨ad409, A409_2, c409_2, e409, hx409_0, hx409_1, hx409_2, hl409_2, hi409_2⟩ := at_T36 HR0.out x6_1 p409 q409
         cases e409
         replace hx409_0 := zH HB hx409_0
         replace hx409_1 := zH HB hx409_1
         replace hx409_2 := zH HB hx409_2
         have HR409_2 := zM hi409_2
         have HC409_2 := zM hl409_2
         clear hi409_2 hl409_2
         replace p409 := eq_true p409
         replace q409 := eq_true q409
         go_upto_if 31 with (first | ((with_reducible refine gate_dst (N := 7) rfl ?_); refine box_event ?hg (N := 7) ?hd (cs := #[.int .i64 0, .int .i64 0, .slice none 0 0]) (t := 36) ?hr ?_; (case hd => rfl); (case hg => rfl); (case hr => first | (go_simp; done) | (go_simp; rfl)); intro gb410 hg w10 hbox hb; replace HO_5 := zM (Kd.S_below (Kd.S_elderB (mS HO_5.out) gb410 (Nat.le_of_eq hg.symm)) hb); have BK410 := zM (hbox); have GW410 := zM ((by rw [hg]; exact (below_size (mB HB.out)) : w.heap.size ≤ gb410)); replace HB := zM (below_step (mB HB.out) hb); have GE410 := GW410; clear hb hbox hg; obtain ⟨hcz11_0, hcz11_1, hcz11_2, hfz11_0, hfz11_1, hfz11_2⟩ := cells_3 BK410.out) | ((with_reducible refine gate_dst (N := 25) rfl ?_); refine Kd.R_lit k52 _ 52 ?hg (N := 25) ?hd (xs := ([] : List (S52))) (inner := []) (ok := fun _ => True) (okp := fun _ => True) ?hr ?hp (fun _ hk => hk) trivial (Below.refl _ _) (Nat.le_refl _) (by simp) ?_; (case hd => rfl); (case hg => rfl); (case hr => first | (go_simp; done) | (go_simp; rfl)); (case hp => exact (Reps.none _ _)); intro v412 w12 ho13 hb hg_ hnew_; clear hg_ hnew_; (first | rw [← Ny411.out] at ho13 | (simp only [Int.reduceToNat] at ho13; rw [← Ny411.out] at ho13)); replace HO_5 := zM (Kd.S_elder' (by (with_reducible repeat (first | apply Kd.S_alloc | apply Kd.S_drewN | apply Kd.S_drew)); exact (Kd.S_mono (zgS (Kd.S_mono HO_5.out (fun k_ hk => (⟨hk, hk.2⟩ : _ ∧ k_ ≠ gb410)))) (fun _ h_ => h_.1))) (Kd.R_base ho13) hb); have HO413 := zM (Kd.R_lower ho13 (below_size mZ)); replace BK410 := zP3 BK410 hb; replace HB := zM (below_step mZ hb); clear hb ho13; obtain ⟨hcz14_0, hcz14_1, hcz14_2, hfz14_0, hfz14_1, hfz14_2⟩ := cells_3 BK410.out) | ((with_reducible refine gate_builtin (b := .append) (xs := #[.tmp 25, .tmp 27]) rfl ?_); at_builtin; refine Kd.R_append_rows k52 (w0 := w) w.heap.size rfl (.tmp 25) (.tmp 27) 34 52 (.agg #[(.string ⟨#[]⟩), (.int .i64 0), (.int .i64 0), (.string ⟨#[]⟩)]) 48 rfl Try.underlying34 info52 rfl (by decide) (by omega) v412 y411 ((rd_T36 l0 x6_1).f2) _ _ _ (fun _ => True) (fun _ => False) rfl rfl ?aO ?aR (fun _ _ h => h) (fun _ h => h.elim) ?aF ?aB ?aS ?aL ?_; (case aR => exact zC (Kd.C_below HR409_2.out HB.out)); (case aB => exact mZ); (case aF => exact (fun _ _ => trivial)); (case aO => exact (mR HO413.out)); (case aS => exact (below_size mZ)); (case aL => have := LMc8.out; omega); intro v415 w15 ho hb hg hat; rw [← Ny414.out] at ho; replace HO_5 := zM (Kd.S_after (ok := (fun k_ => k_ ≠ gb410)) (yS HO_5 (fun _ hk => ⟨hk.1.2, hk.2⟩)) hg hat); replace BK410 := zM (blk_grown (mK BK410.out) hg (Kd.R_ne HO413.out BK410.out (by decide))); replace HB := zM (hb); have HO416 := zM (ho); clear HO413; clear ho hb hg hat; obtain ⟨Ao16, co16, eo16⟩ := Kd.R_slice HO416.out; subst eo16))
         (try simp only [Act.put, List.setIfInBounds_toArray, List.set_cons_zero, List.set_cons_succ])
         go_cut [8] (fun v8 wc => ∃ (kq : Nat) (x8_8 : List (S52)), Aside0 (columbariumkeep_Short.j2 kq l0 a1 x5_1 x6_1 x8_8 ((rd_T36 l0 x6_1).f0) ((rd_T36 l0 x6_1).f1) ((rd_T36 l0 x6_1).f2) = some r) ∧ Aside0 (kq ≤ kj2) ∧ Aside0 (Kd.S k36 36 wc w.heap.size (fun k_ => some k_ ≠ (v8 : Value).ownBlock ∧ k_ ≠ gb410) u5 x5_1) ∧ Aside0 (Kd.R k52 52 wc w.heap.size (fun _ => True) v8 x8_8) ∧ Aside0 (wc.heap[gb410]? = some (.cells #[.int .i64 ((rd_T36 l0 x6_1).f0), .int .i64 ((rd_T36 l0 x6_1).f1), (.slice A409_2 ((rd_T36 l0 x6_1).f2).length c409_2)] 36 (0, 0))) ∧ Aside0 (Below w.heap.size w wc))
         case first =>
          have H := HC9.out
          clear HC9
          by_cases c17 : (y414.length : Int) > 10
          ·rw [if_pos c17] at H
           have c17b0 : decide (10 < (y414.length : Int)) = true := decide_eq_true c17
           have c17b1 : decide (10 < y414.length) = true := decide_eq_true (by omega)
           clear c17
           (first | rw [c17b0] | rw [c17b1] | (simp only [i64_w, i32_w]; rw [c17b0]) | skip)
           by_cases c18 : 10 ≤ (y414.length : Int)
           ·rw [if_pos c18] at H
            have c18b0 := eq_true c18
            have c18b1 : decide (10 ≤ (y414.length : Int)) = true := decide_eq_true c18
            clear c18
            obtain ⟨y417, hy417⟩ : ∃ y_ : List (S52), y_ = (y414.take (10 : Int).toNat) := ⟨_, rfl⟩
            replace H : (columbariumkeep_Short.j2 kj2 l0 a1 x5_1 x6_1 y417 ((rd_T36 l0 x6_1).f0) ((rd_T36 l0 x6_1).f1) ((rd_T36 l0 x6_1).f2)) = some r := by first | (rw [hy417]; with_reducible exact H) | (have H2_ := (Option.bind_some _ _).symm.trans H; rw [hy417]; with_reducible exact H2_) | (have H2_ := (Option.bind_some _ _).symm.trans H; with_reducible exact H2_) | with_reducible exact H | (rw [hy417]; exact H) | exact H
            have Ny417 := zM hy417
            clear hy417
            have H' := Aside0.mk H
            clear H
            have q19 : (10 : Int) ≤ ((y414.length : Int) : Int) := zA
            obtain ⟨i019, hi019, _, hsz19, _⟩ := info_parts info52
            have hcut19 := cut_to (P := Try.prog) 34 52 .i64 Try.underlying34 hi019 Ao16 y414.length co16 10 (by omega) q19 (Kd.R_reads' HO416.out).2.1
            have hr19 := Kd.R_take (m := (10 : Int).toNat) HO416.out (by first | omega | (simp only [Ny414.out, List.length_set]; omega))
            have hy19 : y417.length = (10 : Int).toNat := (by rw [Ny417.out, List.length_take]; first | omega | (have e_ := (Kd.R_reads' HO416.out).1; omega) | (simp only [Ny414.out, List.length_set]; omega))
            rw [← Ny417.out] at hr19
            rw [← hy19] at hr19 hcut19
            clear hy19 hi019 hsz19 HO416
            have HO419 := zM hr19
            clear hr19
            replace q19 := eq_true q19
            go_wp2
            go_meet
            case rel => exact ⟨_, (y417), H', ⟨by have := HK1.out; have := HJ2.out; first | omega | exact Nat.le_refl _⟩, ⟨yS HO_5 (fun _ hk => ⟨(by first | exact hk.2 | exact ob_len hk.2), (by first | exact hk.1 | exact ob_len hk.1)⟩)⟩, ⟨mR HO419.out⟩, ⟨mK BK410.out⟩, ⟨mZ⟩⟩
           ·rw [if_neg c18] at H
            exact absurd H (by simp)
          ·rw [if_neg c17] at H
           have c17b0 : decide (10 < (y414.length : Int)) = false := decide_eq_false c17
           have c17b1 : decide (10 < y414.length) = false := decide_eq_false (by omega)
           clear c17
           (first | rw [c17b0] | rw [c17b1] | (simp only [i64_w, i32_w]; rw [c17b0]) | skip)
           have H' := Aside0.mk H
           clear H
           go_wp2
           go_meet
           case rel => exact ⟨_, (y414), H', ⟨by have := HK1.out; have := HJ2.out; first | omega | exact Nat.le_refl _⟩, ⟨yS HO_5 (fun _ hk => ⟨(by first | exact hk.2 | exact ob_len hk.2), (by first | exact hk.1 | exact ob_len hk.1)⟩)⟩, ⟨mR HO416.out⟩, ⟨mK BK410.out⟩, ⟨mZ⟩⟩
         case rest =>
          clear HC9
          try clear c4
          try clear c4b0
          try clear c4b1
          try clear c5
          try clear c6
          try clear c6b0
          try clear c7
          try clear c7b0
          try clear c8
          try clear c17
          try clear c17b0
          try clear c17b1
          try clear c18
          try clear c18b0
          try clear c18b1
          try clear q19
          try clear hcz11_0
          try clear hcz11_1
          try clear hcz11_2
          try clear hcz14_0
          try clear hcz14_1
          try clear hcz14_2
          try clear hfz11_0
          try clear hfz11_1
          try clear hfz11_2
          try clear hfz14_0
          try clear hfz14_1
          try clear hfz14_2
          try clear hx409_0
          try clear hx409_1
          try clear hx409_2
          try clear p409
          try clear q19
          try clear q409
          obtain ⟨kq, x8_8, HA, HJ8, HO_5, HO_8, BK410, HB⟩ := hcut
          cases kq with
          | zero => exact absurd HA.out (by simp [columbariumkeep_Short.j2])
          | succ kj8 =>
           have H := HA.out
           clear HA
           simp only [columbariumkeep_Short.j2] at H
           have H' := Aside0.mk H
           clear H
           go_wp2
           go_loopg [9] kj8 (fun kq v9 w' => ∃ (x8_4 : List (S52)) (x9_4 : Int), v9 = .int .i64 x9_4 ∧ Aside0 (columbariumkeep_Short.l1 kq l0 a1 x5_1 x6_1 x8_4 x9_4 ((rd_T36 l0 x6_1).f0) ((rd_T36 l0 x6_1).f1) ((rd_T36 l0 x6_1).f2) = some r) ∧ Aside0 (kq ≤ kj8) ∧ Aside0 (Kd.S k36 36 w' w.heap.size (fun k_ => some k_ ≠ (u8 : Value).ownBlock ∧ k_ ≠ gb410) u5 x5_1) ∧ Aside0 (Kd.R k52 52 w' w.heap.size (fun _ => True) u8 x8_4) ∧ Aside0 (w'.heap[gb410]? = some (.cells #[.int .i64 ((rd_T36 l0 x6_1).f0), .int .i64 ((rd_T36 l0 x6_1).f1), (.slice A409_2 ((rd_T36 l0 x6_1).f2).length c409_2)] 36 (0, 0))) ∧ Aside0 (Below w.heap.size w w'))
           case atStart => exact ⟨(x8_8), (0), ya, H', ⟨Nat.le_refl _⟩, ⟨mS HO_5.out⟩, ⟨mR HO_8.out⟩, ⟨mK BK410.out⟩, ⟨mZ⟩⟩
           case round =>
            clear H'
            try clear c4
            try clear c4b0
            try clear c4b1
            try clear c5
            try clear c6
            try clear c6b0
            try clear c7
            try clear c7b0
            try clear c8
            try clear c17
            try clear c17b0
            try clear c17b1
            try clear c18
            try clear c18b0
            try clear c18b1
            try clear q19
            try clear hcz11_0
            try clear hcz11_1
            try clear hcz11_2
            try clear hcz14_0
            try clear hcz14_1
            try clear hcz14_2
            try clear hfz11_0
            try clear hfz11_1
            try clear hfz11_2
            try clear hfz14_0
            try clear hfz14_1
            try clear hfz14_2
            try clear hx409_0
            try clear hx409_1
            try clear hx409_2
            try clear p409
            try clear q19
            try clear q409
            try clear BK410
            obtain ⟨x8_4, x9_4, rfl, HA, HK4, HO_5, HO_8, BK410, HB⟩ := hrel
            cases gk with
            | zero => exact absurd HA.out (by simp [columbariumkeep_Short.l1])
            | succ k4 =>
             have H := HA.out
             clear HA
             simp only [columbariumkeep_Short.l1] at H
             by_cases c20 : x9_4 < (x8_4.length : Int)
             ·rw [if_pos c20] at H
              have c20b0 : decide (x9_4 < (x8_4.length : Int)) = true := decide_eq_true c20
              clear c20
              by_cases c21 : 0 ≤ x9_4
              ·rw [if_pos c21] at H
               have c21b0 : decide (0 ≤ x9_4) = true := decide_eq_true c21
               clear c21
               by_cases c22 : (((rd_T52 x8_4 x9_4).f3).size : Int) > 41
               ·rw [if_pos c22] at H
                have c22b0 : decide (41 < (((rd_T52 x8_4 x9_4).f3).size : Int)) = true := decide_eq_true c22
                have c22b1 : decide (41 < ((rd_T52 x8_4 x9_4).f3).size) = true := decide_eq_true (by omega)
                clear c22
                by_cases c23 : 0 ≤ 41
                ·rw [if_pos c23] at H
                 have c23b0 := eq_true c23
                 have c23b1 : decide (0 ≤ 41) = true := decide_eq_true c23
                 clear c23
                 by_cases c24 : 41 ≤ (((rd_T52 x8_4 x9_4).f3).size : Int)
                 ·rw [if_pos c24] at H
                  have c24b0 := eq_true c24
                  have c24b1 : decide (41 ≤ (((rd_T52 x8_4 x9_4).f3).size : Int)) = true := decide_eq_true c24
                  clear c24
                  obtain ⟨y425, hy425⟩ : ∃ y_ : List (S52), y_ = (x8_4.set (x9_4 : Int).toNat (⟨(rd_T52 x8_4 x9_4).f0, (rd_T52 x8_4 x9_4).f1, (rd_T52 x8_4 x9_4).f2, ((rd_T52 x8_4 x9_4).f3).extract 0 41⟩ : S52)) := ⟨_, rfl⟩
                  replace H : (if (((rd_T52 y425 x9_4).f0).size : Int) > 20 then (if 0 ≤ 20 then (if 20 ≤ (((rd_T52 y425 x9_4).f0).size : Int) then (columbariumkeep_Short.l1 k4 l0 a1 x5_1 x6_1 (y425.set (x9_4 : Int).toNat (⟨((rd_T52 y425 x9_4).f0).extract 0 20, (rd_T52 y425 x9_4).f1, (rd_T52 y425 x9_4).f2, (rd_T52 y425 x9_4).f3⟩ : S52)) (wrap64 (x9_4 + 1)) ((rd_T36 l0 x6_1).f0) ((rd_T36 l0 x6_1).f1) ((rd_T36 l0 x6_1).f2)) else (none)) else (none)) else (columbariumkeep_Short.l1 k4 l0 a1 x5_1 x6_1 y425 (wrap64 (x9_4 + 1)) ((rd_T36 l0 x6_1).f0) ((rd_T36 l0 x6_1).f1) ((rd_T36 l0 x6_1).f2))) = some r := by first | (rw [hy425]; with_reducible exact H) | (have H2_ := (Option.bind_some _ _).symm.trans H; rw [hy425]; with_reducible exact H2_) | (have H2_ := (Option.bind_some _ _).symm.trans H; with_reducible exact H2_) | with_reducible exact H | (rw [hy425]; exact H) | exact H
                  have Ny425 := zM hy425
                  clear hy425
                  by_cases c26 : (((rd_T52 y425 x9_4).f0).size : Int) > 20
                  ·rw [if_pos c26] at H
                   have c26b0 : decide (20 < (((rd_T52 y425 x9_4).f0).size : Int)) = true := decide_eq_true c26
                   have c26b1 : decide (20 < ((rd_T52 y425 x9_4).f0).size) = true := decide_eq_true (by omega)
                   clear c26
                   by_cases c27 : 0 ≤ 20
                   ·rw [if_pos c27] at H
                    have c27b0 := eq_true c27
                    have c27b1 : decide (0 ≤ 20) = true := decide_eq_true c27
                    clear c27
                    by_cases c28 : 20 ≤ (((rd_T52 y425 x9_4).f0).size : Int)
                    ·rw [if_pos c28] at H
                     have c28b0 := eq_true c28
                     have c28b1 : decide (20 ≤ (((rd_T52 y425 x9_4).f0).size : Int)) = true := decide_eq_true c28
                     clear c28
                     obtain ⟨y428, hy428⟩ : ∃ y_ : List (S52), y_ = (y425.set (x9_4 : Int).toNat (⟨((rd_T52 y425 x9_4).f0).extract 0 20, (rd_T52 y425 x9_4).f1, (rd_T52 y425 x9_4).f2, (rd_T52 y425 x9_4).f3⟩ : S52)) := ⟨_, rfl⟩
                     replace H : (columbariumkeep_Short.l1 k4 l0 a1 x5_1 x6_1 y428 (wrap64 (x9_4 + 1)) ((rd_T36 l0 x6_1).f0) ((rd_T36 l0 x6_1).f1) ((rd_T36 l0 x6_1).f2)) = some r := by first | (rw [hy428]; with_reducible exact H) | (have H2_ := (Option.bind_some _ _).symm.trans H; rw [hy428]; with_reducible exact H2_) | (have H2_ := (Option.bind_some _ _).symm.trans H; with_reducible exact H2_) | with_reducible exact H | (rw [hy428]; exact H) | exact H
                     have Ny428 := zM hy428
                     clear hy428
                     have H' := Aside0.mk H
                     clear H
                     obtain ⟨Ao30, co30, eo30⟩ := Kd.R_slice HO_8.out
                     subst eo30
                     have p423 : 0 ≤ (x9_4 : Int) := zA
                     have q423 : x9_4 < (x8_4.length : Int) := zA
                     obtain ⟨ad423, e423, hx423_0, hx423_1, hx423_2, hx423_3⟩ := at_T52 (Kd.R_reads' HO_8.out).2.2 x9_4 p423 q423
                     cases e423
                     replace p423 := eq_true p423
                     replace q423 := eq_true q423
                     have p424 : 0 ≤ (x9_4 : Int) := zA
                     have q424 : x9_4 < (x8_4.length : Int) := zA
                     obtain ⟨ad424, e424, hx424_0, hx424_1, hx424_2, hx424_3⟩ := at_T52 (Kd.R_reads' HO_8.out).2.2 x9_4 p424 q424
                     obtain rfl : ad423 = ad424 := (by injection e424)
                     replace p424 := eq_true p424
                     replace q424 := eq_true q424
                     have p25 : 0 ≤ (x9_4 : Int) := zA
                     have q25 : (x9_4 : Int) < ((x8_4.length : Int) : Int) := zA
                     obtain ⟨go25, co25, eo25, gb25, gl25, cl25, HG25⟩ := Kd.R_form HO_8.out (by omega)
                     (first | cases eo25 | (injection eo25 with ea_ en_ ec_; (first | subst ea_ | (injection ea_ with ea_; subst ea_)); subst ec_; clear en_))
                     have GB25 := zM gb25
                     have GG25 := zM HG25
                     clear gb25 gl25 HG25
                     (first | simp only [add_plain] at hx423_0 | skip)
                     (first | simp only [add_plain] at hx423_1 | skip)
                     (first | simp only [add_plain] at hx423_2 | skip)
                     (first | simp only [add_plain] at hx423_3 | skip)
                     (first | simp only [add_plain] at hx424_0 | skip)
                     (first | simp only [add_plain] at hx424_1 | skip)
                     (first | simp only [add_plain] at hx424_2 | skip)
                     (first | simp only [add_plain] at hx424_3 | skip)
                     obtain ⟨ce25, hcl25, hM25, hcc25, hfr25⟩ := Kd.R_elem HO_8.out z52 (x9_4 : Int) p25 q25
                     obtain rfl := k52_openM hM25
                     have hx25_0 : wr.cell? ⟨go25, (x9_4 : Int).toNat * 4, none⟩ = some (.string ((rd_T52 x8_4 x9_4).f0)) := hcc25 0 _ rfl
                     have hx25_1 : wr.cell? ⟨go25, (x9_4 : Int).toNat * 4 + 1, none⟩ = some (.int .i64 ((rd_T52 x8_4 x9_4).f1)) := hcc25 1 _ rfl
                     have hx25_2 : wr.cell? ⟨go25, (x9_4 : Int).toNat * 4 + 2, none⟩ = some (.int .i64 ((rd_T52 x8_4 x9_4).f2)) := hcc25 2 _ rfl
                     have hx25_3 : wr.cell? ⟨go25, (x9_4 : Int).toNat * 4 + 3, none⟩ = some (.string ((rd_T52 x8_4 x9_4).f3)) := hcc25 3 _ rfl
                     have hf25_0 : wr.frozen? ⟨go25, (x9_4 : Int).toNat * 4, none⟩ = false := hfr25 0
                     have hf25_1 : wr.frozen? ⟨go25, (x9_4 : Int).toNat * 4 + 1, none⟩ = false := hfr25 1
                     have hf25_2 : wr.frozen? ⟨go25, (x9_4 : Int).toNat * 4 + 2, none⟩ = false := hfr25 2
                     have hf25_3 : wr.frozen? ⟨go25, (x9_4 : Int).toNat * 4 + 3, none⟩ = false := hfr25 3
                     clear hcl25 hcc25 hfr25 hM25
                     replace p25 := eq_true p25
                     replace q25 := eq_true q25
                     have HX31 := zM (show Kd.R k52 52 wr w.heap.size (fun _ => True) (.slice (some ⟨go25, 0, none⟩) x8_4.length co30) x8_4 from (mR HO_8.out))
                     obtain ⟨ce31, hcl31, hM31, hcc31, hfr31⟩ := Kd.R_elem HX31.out z52 (x9_4 : Int) zA (by have h_ : (x9_4 : Int) < ((x8_4.length : Int) : Int) := zA; first | exact h_ | (have e_ := (Kd.R_reads' HO_8.out).1; omega) | simpa using h_)
                     obtain rfl := k52_openM hM31
                     have HP31 := Kd.R_seg HX31.out (x9_4 : Int) zA (by have h_ : (x9_4 : Int) < ((x8_4.length : Int) : Int) := zA; first | exact h_ | (have e_ := (Kd.R_reads' HO_8.out).1; omega) | simpa using h_) (seg := [.string (((rd_T52 x8_4 x9_4).f3).extract 0 41)]) (j := 3) hcl31 hcc31 (show 4 ≤ 4 from by decide) (x' := (⟨(rd_T52 x8_4 x9_4).f0, (rd_T52 x8_4 x9_4).f1, (rd_T52 x8_4 x9_4).f2, ((rd_T52 x8_4 x9_4).f3).extract 0 41⟩ : S52)) (k52_mkM _ _ _ (⟨(rd_T52 x8_4 x9_4).f0, (rd_T52 x8_4 x9_4).f1, (rd_T52 x8_4 x9_4).f2, ((rd_T52 x8_4 x9_4).f3).extract 0 41⟩ : S52) ) (fun _ hk => hk)
                     have hx31_3 := hcc31 3 _ rfl
                     (try simp only [show (k52).sz = 4 from rfl, Nat.mul_one, Nat.add_zero] at hx31_3)
                     have hf31_3 := hfr31 3
                     (try simp only [show (k52).sz = 4 from rfl, Nat.mul_one, Nat.add_zero] at hf31_3)
                     clear hcl31 hcc31 hfr31 hM31
                     go_wp2_with (first | ((with_reducible refine gate_store (t := 9) (p := 56) rfl ?_); refine store_event (t := 9) (p := 56) (v := ?vo_w32) (w1 := (wr.setCell ⟨go25, (x9_4 : Int).toNat * 4 + 3, none⟩ (.string (((rd_T52 x8_4 x9_4).f3).extract 0 41)))) ?hg ?ho ?hn ?hr ?_; (case ho => rfl); (case hg => rfl); (case hn => rfl); (case hr => first | (go_simp; done) | (go_simp; rfl)); intro w32 hw; have hg : wr.grownBy w32 (some go25) := (by rw [hw]; exact HP31.2); have hp_ : Kd.R k52 52 w32 w.heap.size (fun _ => True) (.slice (some ⟨go25, 0, none⟩) x8_4.length co30) y425 := (by rw [hw, Ny425.out]; exact HP31.1); clear HP31; replace HO_5 := zM (Kd.S_after (v := (.slice (some ⟨go25, 0, none⟩) x8_4.length co30)) (v1 := (.slice (some ⟨go25, 0, none⟩) x8_4.length co30)) (ok := (fun k_ => k_ ≠ gb410)) (yS HO_5 (fun _ hk => ⟨hk.2, hk.1⟩)) hg (.inl rfl)); replace BK410 := zM (blk_grown (mK BK410.out) hg (Kd.R_ne HO_8.out BK410.out (by decide))); replace HO_8 := zM (hp_); replace HB := zM ((by rw [hw]; exact below_set (HB.out) GB25.out : Below w.heap.size w w32)); clear hg hw hp_; have p426 : 0 ≤ (x9_4 : Int) := zA; have q426 : x9_4 < (y425.length : Int) := (by have h_ : (x9_4 : Int) < ((x8_4.length : Int) : Int) := zA; first | (have e_ := (Kd.R_reads' HO_8.out).1; omega) | simpa only [Ny425.out, List.length_set] using h_); have ql426 : ((x9_4 : Int) < ((x8_4.length : Int) : Int)) = True := eq_true zA; obtain ⟨ad426, e426, hx426_0, hx426_1, hx426_2, hx426_3⟩ := at_T52 (Kd.R_reads' HO_8.out).2.2 x9_4 p426 q426; obtain rfl : (⟨go25, 0, none⟩ : Addr) = ad426 := (by injection e426); (first | simp only [add_plain] at hx426_0 | simp only [add_at] at hx426_0 | simp only [Addr.add, Nat.zero_add] at hx426_0 | skip); (first | simp only [add_plain] at hx426_1 | simp only [add_at] at hx426_1 | simp only [Addr.add, Nat.zero_add] at hx426_1 | skip); (first | simp only [add_plain] at hx426_2 | simp only [add_at] at hx426_2 | simp only [Addr.add, Nat.zero_add] at hx426_2 | skip); (first | simp only [add_plain] at hx426_3 | simp only [add_at] at hx426_3 | simp only [Addr.add, Nat.zero_add] at hx426_3 | skip); replace p426 := eq_true p426; replace q426 := eq_true q426; have p427 : 0 ≤ (x9_4 : Int) := zA; have q427 : x9_4 < (y425.length : Int) := (by have h_ : (x9_4 : Int) < ((x8_4.length : Int) : Int) := zA; first | (have e_ := (Kd.R_reads' HO_8.out).1; omega) | simpa only [Ny425.out, List.length_set] using h_); have ql427 : ((x9_4 : Int) < ((x8_4.length : Int) : Int)) = True := eq_true zA; obtain ⟨ad427, e427, hx427_0, hx427_1, hx427_2, hx427_3⟩ := at_T52 (Kd.R_reads' HO_8.out).2.2 x9_4 p427 q427; obtain rfl : (⟨go25, 0, none⟩ : Addr) = ad427 := (by injection e427); (first | simp only [add_plain] at hx427_0 | simp only [add_at] at hx427_0 | simp only [Addr.add, Nat.zero_add] at hx427_0 | skip); (first | simp only [add_plain] at hx427_1 | simp only [add_at] at hx427_1 | simp only [Addr.add, Nat.zero_add] at hx427_1 | skip); (first | simp only [add_plain] at hx427_2 | simp only [add_at] at hx427_2 | simp only [Addr.add, Nat.zero_add] at hx427_2 | skip); (first | simp only [add_plain] at hx427_3 | simp only [add_at] at hx427_3 | simp only [Addr.add, Nat.zero_add] at hx427_3 | skip); replace p427 := eq_true p427; replace q427 := eq_true q427; have p29 : 0 ≤ (x9_4 : Int) := zA; have q29 : (x9_4 : Int) < ((x8_4.length : Int) : Int) := zA; obtain ⟨ce29, hcl29, hM29, hcc29, hfr29⟩ := Kd.R_elem HO_8.out z52 (x9_4 : Int) p29 q29; obtain rfl := k52_openM hM29; have hx29_0 : w32.cell? ⟨go25, (x9_4 : Int).toNat * 4, none⟩ = some (.string ((rd_T52 y425 x9_4).f0)) := hcc29 0 _ rfl; have hx29_1 : w32.cell? ⟨go25, (x9_4 : Int).toNat * 4 + 1, none⟩ = some (.int .i64 ((rd_T52 y425 x9_4).f1)) := hcc29 1 _ rfl; have hx29_2 : w32.cell? ⟨go25, (x9_4 : Int).toNat * 4 + 2, none⟩ = some (.int .i64 ((rd_T52 y425 x9_4).f2)) := hcc29 2 _ rfl; have hx29_3 : w32.cell? ⟨go25, (x9_4 : Int).toNat * 4 + 3, none⟩ = some (.string ((rd_T52 y425 x9_4).f3)) := hcc29 3 _ rfl; have hf29_0 : w32.frozen? ⟨go25, (x9_4 : Int).toNat * 4, none⟩ = false := hfr29 0; have hf29_1 : w32.frozen? ⟨go25, (x9_4 : Int).toNat * 4 + 1, none⟩ = false := hfr29 1; have hf29_2 : w32.frozen? ⟨go25, (x9_4 : Int).toNat * 4 + 2, none⟩ = false := hfr29 2; have hf29_3 : w32.frozen? ⟨go25, (x9_4 : Int).toNat * 4 + 3, none⟩ = false := hfr29 3; clear hcl29 hcc29 hfr29 hM29; replace p29 := eq_true p29; replace q29 := eq_true q29; have HX33 := zM (show Kd.R k52 52 w32 w.heap.size (fun _ => True) (.slice (some ⟨go25, 0, none⟩) x8_4.length co30) y425 from (mR HO_8.out)); obtain ⟨ce33, hcl33, hM33, hcc33, hfr33⟩ := Kd.R_elem HX33.out z52 (x9_4 : Int) zA (by have h_ : (x9_4 : Int) < ((x8_4.length : Int) : Int) := zA; first | exact h_ | (have e_ := (Kd.R_reads' HO_8.out).1; omega) | simpa using h_); obtain rfl := k52_openM hM33; have HP33 := Kd.R_seg HX33.out (x9_4 : Int) zA (by have h_ : (x9_4 : Int) < ((x8_4.length : Int) : Int) := zA; first | exact h_ | (have e_ := (Kd.R_reads' HO_8.out).1; omega) | simpa using h_) (seg := [.string (((rd_T52 y425 x9_4).f0).extract 0 20)]) (j := 0) hcl33 hcc33 (show 1 ≤ 4 from by decide) (x' := (⟨((rd_T52 y425 x9_4).f0).extract 0 20, (rd_T52 y425 x9_4).f1, (rd_T52 y425 x9_4).f2, (rd_T52 y425 x9_4).f3⟩ : S52)) (k52_mkM _ _ _ (⟨((rd_T52 y425 x9_4).f0).extract 0 20, (rd_T52 y425 x9_4).f1, (rd_T52 y425 x9_4).f2, (rd_T52 y425 x9_4).f3⟩ : S52) ) (fun _ hk => hk); have hx33_0 := hcc33 0 _ rfl; (try simp only [show (k52).sz = 4 from rfl, Nat.mul_one, Nat.add_zero] at hx33_0); have hf33_0 := hfr33 0; (try simp only [show (k52).sz = 4 from rfl, Nat.mul_one, Nat.add_zero] at hf33_0); clear hcl33 hcc33 hfr33 hM33) | ((with_reducible refine gate_store (t := 9) (p := 73) rfl ?_); refine store_event (t := 9) (p := 73) (v := ?vo_w34) (w1 := (w32.setCell ⟨go25, (x9_4 : Int).toNat * 4, none⟩ (.string (((rd_T52 y425 x9_4).f0).extract 0 20)))) ?hg ?ho ?hn ?hr ?_; (case ho => rfl); (case hg => rfl); (case hn => rfl); (case hr => first | (go_simp; done) | (go_simp; rfl)); intro w34 hw; have hg : w32.grownBy w34 (some go25) := (by rw [hw]; exact HP33.2); have hp_ : Kd.R k52 52 w34 w.heap.size (fun _ => True) (.slice (some ⟨go25, 0, none⟩) x8_4.length co30) y428 := (by rw [hw, Ny428.out]; exact HP33.1); clear HP33; replace HO_5 := zM (Kd.S_after (v := (.slice (some ⟨go25, 0, none⟩) x8_4.length co30)) (v1 := (.slice (some ⟨go25, 0, none⟩) x8_4.length co30)) (ok := (fun k_ => k_ ≠ gb410)) (mS HO_5.out) hg (.inl rfl)); replace BK410 := zM (blk_grown (mK BK410.out) hg (Kd.R_ne HO_8.out BK410.out (by decide))); replace HO_8 := zM (hp_); replace HB := zM ((by rw [hw]; exact below_set (HB.out) GB25.out : Below w.heap.size w w34)); clear hg hw hp_))
                     go_roundg k4
                     case measure => have := HK1.out; have := HJ2.out; have := HJ8.out; have := HK4.out; omega
                     case rel => exact ⟨(y428), (wrap64 (x9_4 + 1)), ya, H', ⟨by have := HK1.out; have := HJ2.out; have := HJ8.out; have := HK4.out; omega⟩, ⟨yS HO_5 (fun _ hk => ⟨(by first | exact hk.2 | exact ob_len hk.2), (by first | exact hk.1 | exact ob_len hk.1)⟩)⟩, ⟨mR HO_8.out⟩, ⟨mK BK410.out⟩, ⟨mZ⟩⟩
                    ·rw [if_neg c28] at H
                     exact absurd H (by simp)
                   ·rw [if_neg c27] at H
                    exact absurd H (by simp)
                  ·rw [if_neg c26] at H
                   have c26b0 : decide (20 < (((rd_T52 y425 x9_4).f0).size : Int)) = false := decide_eq_false c26
                   have c26b1 : decide (20 < ((rd_T52 y425 x9_4).f0).size) = false := decide_eq_false (by omega)
                   clear c26
                   have H' := Aside0.mk H
                   clear H
                   obtain ⟨Ao35, co35, eo35⟩ := Kd.R_slice HO_8.out
                   subst eo35
                   have p423 : 0 ≤ (x9_4 : Int) := zA
                   have q423 : x9_4 < (x8_4.length : Int) := zA
                   obtain ⟨ad423, e423, hx423_0, hx423_1, hx423_2, hx423_3⟩ := at_T52 (Kd.R_reads' HO_8.out).2.2 x9_4 p423 q423
                   cases e423
                   replace p423 := eq_true p423
                   replace q423 := eq_true q423
                   have p424 : 0 ≤ (x9_4 : Int) := zA
                   have q424 : x9_4 < (x8_4.length : Int) := zA
                   obtain ⟨ad424, e424, hx424_0, hx424_1, hx424_2, hx424_3⟩ := at_T52 (Kd.R_reads' HO_8.out).2.2 x9_4 p424 q424
                   obtain rfl : ad423 = ad424 := (by injection e424)
                   replace p424 := eq_true p424
                   replace q424 := eq_true q424
                   have p25 : 0 ≤ (x9_4 : Int) := zA
                   have q25 : (x9_4 : Int) < ((x8_4.length : Int) : Int) := zA
                   obtain ⟨go25, co25, eo25, gb25, gl25, cl25, HG25⟩ := Kd.R_form HO_8.out (by omega)
                   (first | cases eo25 | (injection eo25 with ea_ en_ ec_; (first | subst ea_ | (injection ea_ with ea_; subst ea_)); subst ec_; clear en_))
                   have GB25 := zM gb25
                   have GG25 := zM HG25
                   clear gb25 gl25 HG25
                   (first | simp only [add_plain] at hx423_0 | skip)
                   (first | simp only [add_plain] at hx423_1 | skip)
                   (first | simp only [add_plain] at hx423_2 | skip)
                   (first | simp only [add_plain] at hx423_3 | skip)
                   (first | simp only [add_plain] at hx424_0 | skip)
                   (first | simp only [add_plain] at hx424_1 | skip)
                   (first | simp only [add_plain] at hx424_2 | skip)
                   (first | simp only [add_plain] at hx424_3 | skip)
                   obtain ⟨ce25, hcl25, hM25, hcc25, hfr25⟩ := Kd.R_elem HO_8.out z52 (x9_4 : Int) p25 q25
                   obtain rfl := k52_openM hM25
                   have hx25_0 : wr.cell? ⟨go25, (x9_4 : Int).toNat * 4, none⟩ = some (.string ((rd_T52 x8_4 x9_4).f0)) := hcc25 0 _ rfl
                   have hx25_1 : wr.cell? ⟨go25, (x9_4 : Int).toNat * 4 + 1, none⟩ = some (.int .i64 ((rd_T52 x8_4 x9_4).f1)) := hcc25 1 _ rfl
                   have hx25_2 : wr.cell? ⟨go25, (x9_4 : Int).toNat * 4 + 2, none⟩ = some (.int .i64 ((rd_T52 x8_4 x9_4).f2)) := hcc25 2 _ rfl
                   have hx25_3 : wr.cell? ⟨go25, (x9_4 : Int).toNat * 4 + 3, none⟩ = some (.string ((rd_T52 x8_4 x9_4).f3)) := hcc25 3 _ rfl
                   have hf25_0 : wr.frozen? ⟨go25, (x9_4 : Int).toNat * 4, none⟩ = false := hfr25 0
                   have hf25_1 : wr.frozen? ⟨go25, (x9_4 : Int).toNat * 4 + 1, none⟩ = false := hfr25 1
                   have hf25_2 : wr.frozen? ⟨go25, (x9_4 : Int).toNat * 4 + 2, none⟩ = false := hfr25 2
                   have hf25_3 : wr.frozen? ⟨go25, (x9_4 : Int).toNat * 4 + 3, none⟩ = false := hfr25 3
                   clear hcl25 hcc25 hfr25 hM25
                   replace p25 := eq_true p25
                   replace q25 := eq_true q25
                   have HX36 := zM (show Kd.R k52 52 wr w.heap.size (fun _ => True) (.slice (some ⟨go25, 0, none⟩) x8_4.length co35) x8_4 from (mR HO_8.out))
                   obtain ⟨ce36, hcl36, hM36, hcc36, hfr36⟩ := Kd.R_elem HX36.out z52 (x9_4 : Int) zA (by have h_ : (x9_4 : Int) < ((x8_4.length : Int) : Int) := zA; first | exact h_ | (have e_ := (Kd.R_reads' HO_8.out).1; omega) | simpa using h_)
                   obtain rfl := k52_openM hM36
                   have HP36 := Kd.R_seg HX36.out (x9_4 : Int) zA (by have h_ : (x9_4 : Int) < ((x8_4.length : Int) : Int) := zA; first | exact h_ | (have e_ := (Kd.R_reads' HO_8.out).1; omega) | simpa using h_) (seg := [.string (((rd_T52 x8_4 x9_4).f3).extract 0 41)]) (j := 3) hcl36 hcc36 (show 4 ≤ 4 from by decide) (x' := (⟨(rd_T52 x8_4 x9_4).f0, (rd_T52 x8_4 x9_4).f1, (rd_T52 x8_4 x9_4).f2, ((rd_T52 x8_4 x9_4).f3).extract 0 41⟩ : S52)) (k52_mkM _ _ _ (⟨(rd_T52 x8_4 x9_4).f0, (rd_T52 x8_4 x9_4).f1, (rd_T52 x8_4 x9_4).f2, ((rd_T52 x8_4 x9_4).f3).extract 0 41⟩ : S52) ) (fun _ hk => hk)
                   have hx36_3 := hcc36 3 _ rfl
                   (try simp only [show (k52).sz = 4 from rfl, Nat.mul_one, Nat.add_zero] at hx36_3)
                   have hf36_3 := hfr36 3
                   (try simp only [show (k52).sz = 4 from rfl, Nat.mul_one, Nat.add_zero] at hf36_3)
                   clear hcl36 hcc36 hfr36 hM36
                   go_wp2_with (first | ((with_reducible refine gate_store (t := 9) (p := 56) rfl ?_); refine store_event (t := 9) (p := 56) (v := ?vo_w37) (w1 := (wr.setCell ⟨go25, (x9_4 : Int).toNat * 4 + 3, none⟩ (.string (((rd_T52 x8_4 x9_4).f3).extract 0 41)))) ?hg ?ho ?hn ?hr ?_; (case ho => rfl); (case hg => rfl); (case hn => rfl); (case hr => first | (go_simp; done) | (go_simp; rfl)); intro w37 hw; have hg : wr.grownBy w37 (some go25) := (by rw [hw]; exact HP36.2); have hp_ : Kd.R k52 52 w37 w.heap.size (fun _ => True) (.slice (some ⟨go25, 0, none⟩) x8_4.length co35) y425 := (by rw [hw, Ny425.out]; exact HP36.1); clear HP36; replace HO_5 := zM (Kd.S_after (v := (.slice (some ⟨go25, 0, none⟩) x8_4.length co35)) (v1 := (.slice (some ⟨go25, 0, none⟩) x8_4.length co35)) (ok := (fun k_ => k_ ≠ gb410)) (yS HO_5 (fun _ hk => ⟨hk.2, hk.1⟩)) hg (.inl rfl)); replace BK410 := zM (blk_grown (mK BK410.out) hg (Kd.R_ne HO_8.out BK410.out (by decide))); replace HO_8 := zM (hp_); replace HB := zM ((by rw [hw]; exact below_set (HB.out) GB25.out : Below w.heap.size w w37)); clear hg hw hp_; have p426 : 0 ≤ (x9_4 : Int) := zA; have q426 : x9_4 < (y425.length : Int) := (by have h_ : (x9_4 : Int) < ((x8_4.length : Int) : Int) := zA; first | (have e_ := (Kd.R_reads' HO_8.out).1; omega) | simpa only [Ny425.out, List.length_set] using h_); have ql426 : ((x9_4 : Int) < ((x8_4.length : Int) : Int)) = True := eq_true zA; obtain ⟨ad426, e426, hx426_0, hx426_1, hx426_2, hx426_3⟩ := at_T52 (Kd.R_reads' HO_8.out).2.2 x9_4 p426 q426; obtain rfl : (⟨go25, 0, none⟩ : Addr) = ad426 := (by injection e426); (first | simp only [add_plain] at hx426_0 | simp only [add_at] at hx426_0 | simp only [Addr.add, Nat.zero_add] at hx426_0 | skip); (first | simp only [add_plain] at hx426_1 | simp only [add_at] at hx426_1 | simp only [Addr.add, Nat.zero_add] at hx426_1 | skip); (first | simp only [add_plain] at hx426_2 | simp only [add_at] at hx426_2 | simp only [Addr.add, Nat.zero_add] at hx426_2 | skip); (first | simp only [add_plain] at hx426_3 | simp only [add_at] at hx426_3 | simp only [Addr.add, Nat.zero_add] at hx426_3 | skip); replace p426 := eq_true p426; replace q426 := eq_true q426))
                   go_roundg k4
                   case measure => have := HK1.out; have := HJ2.out; have := HJ8.out; have := HK4.out; omega
                   case rel => exact ⟨(y425), (wrap64 (x9_4 + 1)), ya, H', ⟨by have := HK1.out; have := HJ2.out; have := HJ8.out; have := HK4.out; omega⟩, ⟨yS HO_5 (fun _ hk => ⟨(by first | exact hk.2 | exact ob_len hk.2), (by first | exact hk.1 | exact ob_len hk.1)⟩)⟩, ⟨mR HO_8.out⟩, ⟨mK BK410.out⟩, ⟨mZ⟩⟩
                 ·rw [if_neg c24] at H
                  exact absurd H (by simp)
                ·rw [if_neg c23] at H
                 exact absurd H (by simp)
               ·rw [if_neg c22] at H
                have c22b0 : decide (41 < (((rd_T52 x8_4 x9_4).f3).size : Int)) = false := decide_eq_false c22
                have c22b1 : decide (41 < ((rd_T52 x8_4 x9_4).f3).size) = false := decide_eq_false (by omega)
                clear c22
                by_cases c38 : (((rd_T52 x8_4 x9_4).f0).size : Int) > 20
                ·rw [if_pos c38] at H
                 have c38b0 : decide (20 < (((rd_T52 x8_4 x9_4).f0).size : Int)) = true := decide_eq_true c38
                 have c38b1 : decide (20 < ((rd_T52 x8_4 x9_4).f0).size) = true := decide_eq_true (by omega)
                 clear c38
                 by_cases c39 : 0 ≤ 20
                 ·rw [if_pos c39] at H
                  have c39b0 := eq_true c39
                  have c39b1 : decide (0 ≤ 20) = true := decide_eq_true c39
                  clear c39
                  by_cases c40 : 20 ≤ (((rd_T52 x8_4 x9_4).f0).size : Int)
                  ·rw [if_pos c40] at H
                   have c40b0 := eq_true c40
                   have c40b1 : decide (20 ≤ (((rd_T52 x8_4 x9_4).f0).size : Int)) = true := decide_eq_true c40
                   clear c40
                   obtain ⟨y431, hy431⟩ : ∃ y_ : List (S52), y_ = (x8_4.set (x9_4 : Int).toNat (⟨((rd_T52 x8_4 x9_4).f0).extract 0 20, (rd_T52 x8_4 x9_4).f1, (rd_T52 x8_4 x9_4).f2, (rd_T52 x8_4 x9_4).f3⟩ : S52)) := ⟨_, rfl⟩
                   replace H : (columbariumkeep_Short.l1 k4 l0 a1 x5_1 x6_1 y431 (wrap64 (x9_4 + 1)) ((rd_T36 l0 x6_1).f0) ((rd_T36 l0 x6_1).f1) ((rd_T36 l0 x6_1).f2)) = some r := by first | (rw [hy431]; with_reducible exact H) | (have H2_ := (Option.bind_some _ _).symm.trans H; rw [hy431]; with_reducible exact H2_) | (have H2_ := (Option.bind_some _ _).symm.trans H; with_reducible exact H2_) | with_reducible exact H | (rw [hy431]; exact H) | exact H
                   have Ny431 := zM hy431
                   clear hy431
                   have H' := Aside0.mk H
                   clear H
                   obtain ⟨Ao42, co42, eo42⟩ := Kd.R_slice HO_8.out
                   subst eo42
                   have p423 : 0 ≤ (x9_4 : Int) := zA
                   have q423 : x9_4 < (x8_4.length : Int) := zA
                   obtain ⟨ad423, e423, hx423_0, hx423_1, hx423_2, hx423_3⟩ := at_T52 (Kd.R_reads' HO_8.out).2.2 x9_4 p423 q423
                   cases e423
                   replace p423 := eq_true p423
                   replace q423 := eq_true q423
                   have p429 : 0 ≤ (x9_4 : Int) := zA
                   have q429 : x9_4 < (x8_4.length : Int) := zA
                   obtain ⟨ad429, e429, hx429_0, hx429_1, hx429_2, hx429_3⟩ := at_T52 (Kd.R_reads' HO_8.out).2.2 x9_4 p429 q429
                   obtain rfl : ad423 = ad429 := (by injection e429)
                   replace p429 := eq_true p429
                   replace q429 := eq_true q429
                   have p430 : 0 ≤ (x9_4 : Int) := zA
                   have q430 : x9_4 < (x8_4.length : Int) := zA
                   obtain ⟨ad430, e430, hx430_0, hx430_1, hx430_2, hx430_3⟩ := at_T52 (Kd.R_reads' HO_8.out).2.2 x9_4 p430 q430
                   obtain rfl : ad423 = ad430 := (by injection e430)
                   replace p430 := eq_true p430
                   replace q430 := eq_true q430
                   have p41 : 0 ≤ (x9_4 : Int) := zA
                   have q41 : (x9_4 : Int) < ((x8_4.length : Int) : Int) := zA
                   obtain ⟨go41, co41, eo41, gb41, gl41, cl41, HG41⟩ := Kd.R_form HO_8.out (by omega)
                   (first | cases eo41 | (injection eo41 with ea_ en_ ec_; (first | subst ea_ | (injection ea_ with ea_; subst ea_)); subst ec_; clear en_))
                   have GB41 := zM gb41
                   have GG41 := zM HG41
                   clear gb41 gl41 HG41
                   (first | simp only [add_plain] at hx423_0 | skip)
                   (first | simp only [add_plain] at hx423_1 | skip)
                   (first | simp only [add_plain] at hx423_2 | skip)
                   (first | simp only [add_plain] at hx423_3 | skip)
                   (first | simp only [add_plain] at hx429_0 | skip)
                   (first | simp only [add_plain] at hx429_1 | skip)
                   (first | simp only [add_plain] at hx429_2 | skip)
                   (first | simp only [add_plain] at hx429_3 | skip)
                   (first | simp only [add_plain] at hx430_0 | skip)
                   (first | simp only [add_plain] at hx430_1 | skip)
                   (first | simp only [add_plain] at hx430_2 | skip)
                   (first | simp only [add_plain] at hx430_3 | skip)
                   obtain ⟨ce41, hcl41, hM41, hcc41, hfr41⟩ := Kd.R_elem HO_8.out z52 (x9_4 : Int) p41 q41
                   obtain rfl := k52_openM hM41
                   have hx41_0 : wr.cell? ⟨go41, (x9_4 : Int).toNat * 4, none⟩ = some (.string ((rd_T52 x8_4 x9_4).f0)) := hcc41 0 _ rfl
                   have hx41_1 : wr.cell? ⟨go41, (x9_4 : Int).toNat * 4 + 1, none⟩ = some (.int .i64 ((rd_T52 x8_4 x9_4).f1)) := hcc41 1 _ rfl
                   have hx41_2 : wr.cell? ⟨go41, (x9_4 : Int).toNat * 4 + 2, none⟩ = some (.int .i64 ((rd_T52 x8_4 x9_4).f2)) := hcc41 2 _ rfl
                   have hx41_3 : wr.cell? ⟨go41, (x9_4 : Int).toNat * 4 + 3, none⟩ = some (.string ((rd_T52 x8_4 x9_4).f3)) := hcc41 3 _ rfl
                   have hf41_0 : wr.frozen? ⟨go41, (x9_4 : Int).toNat * 4, none⟩ = false := hfr41 0
                   have hf41_1 : wr.frozen? ⟨go41, (x9_4 : Int).toNat * 4 + 1, none⟩ = false := hfr41 1
                   have hf41_2 : wr.frozen? ⟨go41, (x9_4 : Int).toNat * 4 + 2, none⟩ = false := hfr41 2
                   have hf41_3 : wr.frozen? ⟨go41, (x9_4 : Int).toNat * 4 + 3, none⟩ = false := hfr41 3
                   clear hcl41 hcc41 hfr41 hM41
                   replace p41 := eq_true p41
                   replace q41 := eq_true q41
                   have HX43 := zM (show Kd.R k52 52 wr w.heap.size (fun _ => True) (.slice (some ⟨go41, 0, none⟩) x8_4.length co42) x8_4 from (mR HO_8.out))
                   obtain ⟨ce43, hcl43, hM43, hcc43, hfr43⟩ := Kd.R_elem HX43.out z52 (x9_4 : Int) zA (by have h_ : (x9_4 : Int) < ((x8_4.length : Int) : Int) := zA; first | exact h_ | (have e_ := (Kd.R_reads' HO_8.out).1; omega) | simpa using h_)
                   obtain rfl := k52_openM hM43
                   have HP43 := Kd.R_seg HX43.out (x9_4 : Int) zA (by have h_ : (x9_4 : Int) < ((x8_4.length : Int) : Int) := zA; first | exact h_ | (have e_ := (Kd.R_reads' HO_8.out).1; omega) | simpa using h_) (seg := [.string (((rd_T52 x8_4 x9_4).f0).extract 0 20)]) (j := 0) hcl43 hcc43 (show 1 ≤ 4 from by decide) (x' := (⟨((rd_T52 x8_4 x9_4).f0).extract 0 20, (rd_T52 x8_4 x9_4).f1, (rd_T52 x8_4 x9_4).f2, (rd_T52 x8_4 x9_4).f3⟩ : S52)) (k52_mkM _ _ _ (⟨((rd_T52 x8_4 x9_4).f0).extract 0 20, (rd_T52 x8_4 x9_4).f1, (rd_T52 x8_4 x9_4).f2, (rd_T52 x8_4 x9_4).f3⟩ : S52) ) (fun _ hk => hk)
                   have hx43_0 := hcc43 0 _ rfl
                   (try simp only [show (k52).sz = 4 from rfl, Nat.mul_one, Nat.add_zero] at hx43_0)
                   have hf43_0 := hfr43 0
                   (try simp only [show (k52).sz = 4 from rfl, Nat.mul_one, Nat.add_zero] at hf43_0)
                   clear hcl43 hcc43 hfr43 hM43
                   go_wp2_with (first | ((with_reducible refine gate_store (t := 9) (p := 73) rfl ?_); refine store_event (t := 9) (p := 73) (v := ?vo_w44) (w1 := (wr.setCell ⟨go41, (x9_4 : Int).toNat * 4, none⟩ (.string (((rd_T52 x8_4 x9_4).f0).extract 0 20)))) ?hg ?ho ?hn ?hr ?_; (case ho => rfl); (case hg => rfl); (case hn => rfl); (case hr => first | (go_simp; done) | (go_simp; rfl)); intro w44 hw; have hg : wr.grownBy w44 (some go41) := (by rw [hw]; exact HP43.2); have hp_ : Kd.R k52 52 w44 w.heap.size (fun _ => True) (.slice (some ⟨go41, 0, none⟩) x8_4.length co42) y431 := (by rw [hw, Ny431.out]; exact HP43.1); clear HP43; replace HO_5 := zM (Kd.S_after (v := (.slice (some ⟨go41, 0, none⟩) x8_4.length co42)) (v1 := (.slice (some ⟨go41, 0, none⟩) x8_4.length co42)) (ok := (fun k_ => k_ ≠ gb410)) (yS HO_5 (fun _ hk => ⟨hk.2, hk.1⟩)) hg (.inl rfl)); replace BK410 := zM (blk_grown (mK BK410.out) hg (Kd.R_ne HO_8.out BK410.out (by decide))); replace HO_8 := zM (hp_); replace HB := zM ((by rw [hw]; exact below_set (HB.out) GB41.out : Below w.heap.size w w44)); clear hg hw hp_))
                   go_roundg k4
                   case measure => have := HK1.out; have := HJ2.out; have := HJ8.out; have := HK4.out; omega
                   case rel => exact ⟨(y431), (wrap64 (x9_4 + 1)), ya, H', ⟨by have := HK1.out; have := HJ2.out; have := HJ8.out; have := HK4.out; omega⟩, ⟨yS HO_5 (fun _ hk => ⟨(by first | exact hk.2 | exact ob_len hk.2), (by first | exact hk.1 | exact ob_len hk.1)⟩)⟩, ⟨mR HO_8.out⟩, ⟨mK BK410.out⟩, ⟨mZ⟩⟩
                  ·rw [if_neg c40] at H
                   exact absurd H (by simp)
                 ·rw [if_neg c39] at H
                  exact absurd H (by simp)
                ·rw [if_neg c38] at H
                 have c38b0 : decide (20 < (((rd_T52 x8_4 x9_4).f0).size : Int)) = false := decide_eq_false c38
                 have c38b1 : decide (20 < ((rd_T52 x8_4 x9_4).f0).size) = false := decide_eq_false (by omega)
                 clear c38
                 have H' := Aside0.mk H
                 clear H
                 obtain ⟨Ao45, co45, eo45⟩ := Kd.R_slice HO_8.out
                 subst eo45
                 have p423 : 0 ≤ (x9_4 : Int) := zA
                 have q423 : x9_4 < (x8_4.length : Int) := zA
                 obtain ⟨ad423, e423, hx423_0, hx423_1, hx423_2, hx423_3⟩ := at_T52 (Kd.R_reads' HO_8.out).2.2 x9_4 p423 q423
                 cases e423
                 replace p423 := eq_true p423
                 replace q423 := eq_true q423
                 have p429 : 0 ≤ (x9_4 : Int) := zA
                 have q429 : x9_4 < (x8_4.length : Int) := zA
                 obtain ⟨ad429, e429, hx429_0, hx429_1, hx429_2, hx429_3⟩ := at_T52 (Kd.R_reads' HO_8.out).2.2 x9_4 p429 q429
                 obtain rfl : ad423 = ad429 := (by injection e429)
                 replace p429 := eq_true p429
                 replace q429 := eq_true q429
                 go_wp2
                 go_roundg k4
                 case measure => have := HK1.out; have := HJ2.out; have := HJ8.out; have := HK4.out; omega
                 case rel => exact ⟨(x8_4), (wrap64 (x9_4 + 1)), ya, H', ⟨by have := HK1.out; have := HJ2.out; have := HJ8.out; have := HK4.out; omega⟩, ⟨mS HO_5.out⟩, ⟨mR HO_8.out⟩, ⟨mK BK410.out⟩, ⟨mZ⟩⟩
              ·rw [if_neg c21] at H
               exact absurd H (by simp)
             ·rw [if_neg c20] at H
              have c20b0 : decide (x9_4 < (x8_4.length : Int)) = false := decide_eq_false c20
              clear c20
              by_cases c46 : x5_1.length < 3518437208883
              ·rw [if_pos c46] at H
               have LMc46 := zM c46
               clear c46
               obtain ⟨y420, hy420⟩ : ∃ y_ : List (S36), y_ = (x5_1 ++ [(⟨((rd_T36 l0 x6_1).f0), ((rd_T36 l0 x6_1).f1), x8_4⟩ : S36)]) := ⟨_, rfl⟩
               replace H : (columbariumkeep_Short.l0 k4 l0 a1 y420 (wrap64 (x6_1 + 1))) = some r := by first | (rw [hy420]; with_reducible exact H) | (have H2_ := (Option.bind_some _ _).symm.trans H; rw [hy420]; with_reducible exact H2_) | (have H2_ := (Option.bind_some _ _).symm.trans H; with_reducible exact H2_) | with_reducible exact H | (rw [hy420]; exact H) | exact H
               have Ny420 := zM hy420
               clear hy420
               have H' := Aside0.mk H
               clear H
               obtain ⟨Ao47, co47, eo47⟩ := Kd.R_slice HO_8.out
               subst eo47
               obtain ⟨hcz48_0, hcz48_1, hcz48_2, hfz48_0, hfz48_1, hfz48_2⟩ := cells_3 BK410.out
               go_wp2_with (first | ((with_reducible refine gate_store (t := 34) (p := 75) rfl ?_); refine store_event (t := 34) (p := 75) (v := ?vo_w49) (w1 := (wr.setCell ⟨gb410, 2, none⟩ (.slice Ao47 x8_4.length co47))) ?hg ?ho ?hn ?hr ?_; (case ho => rfl); (case hg => rfl); (case hn => rfl); (case hr => first | (go_simp; done) | (go_simp; rfl)); intro w49 hw; have n0_ : Aside0 (Kd.S k36 36 w49 w.heap.size (fun k_ => some k_ ≠ (.slice Ao47 x8_4.length co47 : Value).ownBlock ∧ k_ ≠ gb410) u5 x5_1) := ⟨(by rw [hw]; exact (by (with_reducible repeat (first | apply Kd.S_alloc | apply Kd.S_drewN | apply Kd.S_drew)); exact Kd.S_mono (zgS (Kd.S_mono HO_5.out (fun k_ hk => (⟨hk, hk.2⟩ : _ ∧ k_ ≠ gb410)))) (fun _ hk => ⟨hk.1.1, hk.1.2⟩)))⟩; have n1_ : Aside0 (Kd.R k52 52 w49 w.heap.size (fun _ => True) (.slice Ao47 x8_4.length co47) x8_4) := ⟨(by rw [hw]; exact (by (with_reducible repeat (first | apply Kd.R_alloc | apply Kd.R_drewN | apply Kd.R_drew)); exact Kd.R_mono (zgR (Kd.R_types HO_8.out BK410.out (by decide))) (fun _ hk => trivial)))⟩; have n2_ : Aside0 (w49.heap[gb410]? = some (.cells #[.int .i64 ((rd_T36 l0 x6_1).f0), .int .i64 ((rd_T36 l0 x6_1).f1), .slice Ao47 x8_4.length co47] 36 (0, 0))) := ⟨(by rw [hw]; exact (by (with_reducible repeat (first | refine blk_drewN ?_ _ | refine blk_drew ?_ | refine blk_alloc ?_ _)); refine blk_put (cs := #[.int .i64 ((rd_T36 l0 x6_1).f0), .int .i64 ((rd_T36 l0 x6_1).f1), .slice A409_2 ((rd_T36 l0 x6_1).f2).length c409_2]) ?_ 2 _ rfl; (with_reducible repeat (first | refine blk_drewN ?_ _ | refine blk_drew ?_ | refine blk_alloc ?_ _)); exact BK410.out))⟩; have n3_ : Aside0 (Below w.heap.size w w49) := ⟨(by rw [hw]; exact mZ)⟩; clear hw; clear HO_5; clear HO_8; clear BK410; clear HB; have HO_5 := n0_; have HO_8 := n1_; have BK410 := n2_; have HB := n3_; clear n0_ n1_ n2_ n3_; obtain ⟨hcz50_0, hcz50_1, hcz50_2, hfz50_0, hfz50_1, hfz50_2⟩ := cells_3 BK410.out) | ((with_reducible refine gate_builtin (b := .append) (xs := #[.tmp 76, .tmp 78]) rfl ?_); at_builtin; refine Kd.S_append k36 (w0 := w) w.heap.size rfl (.tmp 76) (.tmp 78) 26 36 (.agg #[(.int .i64 0), (.int .i64 0), (.slice none 0 0)]) 40 rfl Try.underlying26 info36 rfl (by decide) (by omega) u5 x5_1 (⟨((rd_T36 l0 x6_1).f0), ((rd_T36 l0 x6_1).f1), x8_4⟩ : S36) [.int .i64 ((rd_T36 l0 x6_1).f0), .int .i64 ((rd_T36 l0 x6_1).f1), .slice Ao47 x8_4.length co47] (fun k_ => k_ ≠ gb410) (fun k_ => some k_ = (.slice Ao47 x8_4.length co47 : Value).ownBlock) rfl rfl ?aP (fun k_ hk_ => ((Kd.R_mono (ok' := fun k_ => ((fun k_ => k_ ≠ gb410)) k_ ∧ some k_ ≠ (u5 : Value).ownBlock) (Kd.R_types (Kd.R_apart' (HO_8.out) (Kd.S_typed HO_5.out) (by decide)) BK410.out (by decide)) (fun k_ hk => ⟨hk.2, hk.1.2⟩))).1 k_ hk_.symm) ?aF ?aO ?aB ?aS ?aL ?_; (case aP => exact k36_mkM _ _ _ (⟨((rd_T36 l0 x6_1).f0), ((rd_T36 l0 x6_1).f1), x8_4⟩ : S36) (Kd.R_mono (Kd.R_tight rfl (Kd.R_mono (ok' := fun k_ => ((fun k_ => k_ ≠ gb410)) k_ ∧ some k_ ≠ (u5 : Value).ownBlock) (Kd.R_types (Kd.R_apart' (HO_8.out) (Kd.S_typed HO_5.out) (by decide)) BK410.out (by decide)) (fun k_ hk => ⟨hk.2, hk.1.2⟩))) (fun _ h_ => h_))); (case aB => exact mZ); (case aF => exact (fun k_ hk => Kd.freshB (mK BK410.out) k_ hk)); (case aO => exact (yS HO_5 (fun k_ hk => ⟨hk.2, fun e_ => hk.1 e_⟩))); (case aS => exact (below_size mZ)); (case aL => have := LMc46.out; omega); intro v421 w51 ho hb hg hat; rw [← Ny420.out] at ho; replace BK410 := zM (blk_grown (mK BK410.out) hg (Kd.S_away HO_5.out (fun _ hk => hk.2))); replace HB := zM (hb); have HO422 := zM (ho); clear HO_5 HO_8; clear ho hb hg hat))
               go_roundg k4
               case measure => have := HK1.out; have := HJ2.out; have := HJ8.out; have := HK4.out; omega
               case rel => exact ⟨(y420), (wrap64 (x6_1 + 1)), ya, H', ⟨by have := HK1.out; have := HJ2.out; have := HJ8.out; have := HK4.out; omega⟩, ⟨yS HO422 (fun _ hk => trivial)⟩, ⟨mZ⟩⟩
              ·rw [if_neg c46] at H
               exact absurd H (by simp)
        ·rw [if_neg c8] at H
         exact absurd H (by simp)
       ·rw [if_neg c7] at H
        exact absurd H (by simp)
      ·rw [if_neg c6] at H
       exact absurd H (by simp)
     ·replace c5 := Bool.eq_false_iff.mpr c5
      subst c5
      have H1 : (some x5_1) = some r := by rw [if_neg (show ¬ (false = true) by decide)] at H; exact H
      clear H
      have H := H1
      clear H1
      obtain rfl := Option.some.inj H
      go_wp2
      go_ret
      exact ⟨_, by first | rfl | (simp [errW_none, errW_some] <;> rfl) | (simp [*, errW_none, errW_some] <;> rfl), mS HO_5.out, mB HB.out⟩

/-! ### columbariumkeep_Num: function 23 -/
def columbariumkeep_Num.f (a0 : ByteArray) (a1 : Int) : Option (ByteArray × Int × Int × ByteArray) := some (a0, 1, a1, (⟨#[]⟩ : ByteArray))
set_option maxHeartbeats 8000000 in
set_option maxRecDepth 100000 in
theorem columbariumkeep_Num.calls (a0 : ByteArray) (a1 : Int) (r1 : ByteArray) (r2 : Int) (r3 : Int) (r4 : ByteArray) (w : World) (h : columbariumkeep_Num.f a0 a1 = some (r1, r2, r3, r4)) :
  Calls Try.prog 23 #[.string a0, .int .i64 a1] w fun e w' => e = .returned (.agg #[.string r1, .int .i64 r2, .int .i64 r3, .string r4]) ∧ Below w.heap.size w w' := by
 have hu52 := Try.underlying52
 have HB := zM (Below.refl w.heap.size w)
 have H : (some (a0, 1, a1, (⟨#[]⟩ : ByteArray))) = some (r1, r2, r3, r4) := h
 clear h
 simp only [Option.some.injEq, Prod.mk.injEq] at H
 obtain ⟨rfl, rfl, rfl, rfl⟩ := H
 go_enter Try.func23, Try.ntmps23
 go_wp2_with (first | ((with_reducible refine gate_dst (N := 4) rfl ?_); refine box_event ?hg (N := 4) ?hd (cs := #[.string (⟨#[]⟩ : ByteArray), .int .i64 0, .int .i64 0, .string (⟨#[]⟩ : ByteArray)]) (t := 52) ?hr ?_; (case hd => rfl); (case hg => rfl); (case hr => first | (go_simp; done) | (go_simp; rfl)); intro gb432 hg w3 hbox hb; have BK432 := zM (hbox); have GW432 := zM ((by rw [hg]; exact (below_size (mB HB.out)) : w.heap.size ≤ gb432)); replace HB := zM (below_step (mB HB.out) hb); have GE432 := GW432; clear hb hbox hg; obtain ⟨hcz4_0, hcz4_1, hcz4_2, hcz4_3, hfz4_0, hfz4_1, hfz4_2, hfz4_3⟩ := cells_4 BK432.out))
 refine bodyPost_ret (results_cell_row rfl _ _ gb432 52 #[.string a0, .int .i64 1, .int .i64 a1, .string (⟨#[]⟩ : ByteArray)] (0, 0) _ rfl (by (with_reducible repeat (first | refine blk_drewN ?_ _ | refine blk_drew ?_ | refine blk_alloc ?_ _)); apply puts_4; (with_reducible repeat (first | refine blk_drewN ?_ _ | refine blk_drew ?_ | refine blk_alloc ?_ _)); exact BK432.out) Try.underlying52 rfl (by kernel_rfl)) rfl ?_
 exact ⟨by first | rfl | (simp [errW_none, errW_some] <;> rfl) | (simp [*, errW_none, errW_some] <;> rfl), mZ⟩

/-! ### columbariumkeep_Str: function 24 -/
def columbariumkeep_Str.f (a0 : ByteArray) (a1 : ByteArray) : Option (ByteArray × Int × Int × ByteArray) := some (a0, 2, 0, a1)
set_option maxHeartbeats 8000000 in
set_option maxRecDepth 100000 in
theorem columbariumkeep_Str.calls (a0 : ByteArray) (a1 : ByteArray) (r1 : ByteArray) (r2 : Int) (r3 : Int) (r4 : ByteArray) (w : World) (h : columbariumkeep_Str.f a0 a1 = some (r1, r2, r3, r4)) :
  Calls Try.prog 24 #[.string a0, .string a1] w fun e w' => e = .returned (.agg #[.string r1, .int .i64 r2, .int .i64 r3, .string r4]) ∧ Below w.heap.size w w' := by
 have hu52 := Try.underlying52
 have HB := zM (Below.refl w.heap.size w)
 have H : (some (a0, 2, 0, a1)) = some (r1, r2, r3, r4) := h
 clear h
 simp only [Option.some.injEq, Prod.mk.injEq] at H
 obtain ⟨rfl, rfl, rfl, rfl⟩ := H
 go_enter Try.func24, Try.ntmps24
 go_wp2_with (first | ((with_reducible refine gate_dst (N := 4) rfl ?_); refine box_event ?hg (N := 4) ?hd (cs := #[.string (⟨#[]⟩ : ByteArray), .int .i64 0, .int .i64 0, .string (⟨#[]⟩ : ByteArray)]) (t := 52) ?hr ?_; (case hd => rfl); (case hg => rfl); (case hr => first | (go_simp; done) | (go_simp; rfl)); intro gb433 hg w3 hbox hb; have BK433 := zM (hbox); have GW433 := zM ((by rw [hg]; exact (below_size (mB HB.out)) : w.heap.size ≤ gb433)); replace HB := zM (below_step (mB HB.out) hb); have GE433 := GW433; clear hb hbox hg; obtain ⟨hcz4_0, hcz4_1, hcz4_2, hcz4_3, hfz4_0, hfz4_1, hfz4_2, hfz4_3⟩ := cells_4 BK433.out))
 refine bodyPost_ret (results_cell_row rfl _ _ gb433 52 #[.string a0, .int .i64 2, .int .i64 0, .string a1] (0, 0) _ rfl (by (with_reducible repeat (first | refine blk_drewN ?_ _ | refine blk_drew ?_ | refine blk_alloc ?_ _)); apply puts_4; (with_reducible repeat (first | refine blk_drewN ?_ _ | refine blk_drew ?_ | refine blk_alloc ?_ _)); exact BK433.out) Try.underlying52 rfl (by kernel_rfl)) rfl ?_
 exact ⟨by first | rfl | (simp [errW_none, errW_some] <;> rfl) | (simp [*, errW_none, errW_some] <;> rfl), mZ⟩

end Go.Proofs.Ytalpcnomfebdiaa.QPredNormal
