-- Written by a program of this session (wip/myprint.py): the machine's side of a law
import Derived.Test.YtalpcnomfebdiaaQPredNormalx0
namespace Go.Proofs.Ytalpcnomfebdiaa.QPredNormal
open Go.RowKit Go.Proofs.YtalpcnomfebdiaaW.PrintWords Go.Proofs.YtalpcnomfebdiaaW.PrintLast Go.Proofs.YtalpcnomfebdiaaW.PrintMore
attribute [local go_sem] max2_int min2_int max_two min_two max_three min_three max_four min_four   -- for this text's walks alone
set_option linter.unusedVariables false
set_option linter.unusedSimpArgs false

/-! ### columbariumlaw13_flat: function 12 -/
mutual
def columbariumlaw13_flat.j0 : Nat → Int → Bool → Int → ByteArray → Int → Int → ByteArray → List ByteArray → List (S25) → Option (Bool)
 | 0, _, _, _, _, _, _, _, _, _ => none
 | k + 1, x1, x22, x406000, x406001, x406002, x406003, x406004, x406005, x406006 => if x22 = true then (if x406000 = x1 then (columbariumlaw13_flat.j1 k true x406000 x406001 x406002 x406003 x406004 x406005 x406006) else (columbariumlaw13_flat.j1 k ((x406006.length : Int) == 1) x406000 x406001 x406002 x406003 x406004 x406005 x406006)) else (some true)
def columbariumlaw13_flat.j1 : Nat → Bool → Int → ByteArray → Int → Int → ByteArray → List ByteArray → List (S25) → Option (Bool)
 | 0, _, _, _, _, _, _, _, _ => none
 | k + 1, x34, x406000, x406001, x406002, x406003, x406004, x406005, x406006 => if x34 = true then (some false) else (columbariumlaw13_flat.l0 k 0 x406000 x406001 x406002 x406003 x406004 x406005 x406006)
def columbariumlaw13_flat.l0 : Nat → Int → Int → ByteArray → Int → Int → ByteArray → List ByteArray → List (S25) → Option (Bool)
 | 0, _, _, _, _, _, _, _, _ => none
 | k + 1, x5, x406000, x406001, x406002, x406003, x406004, x406005, x406006 => if x5 < (x406006.length : Int) then (if 0 ≤ x5 then ((columbariumlaw13_flat.f k ((rd_T25 x406006 x5).f0) ((rd_T25 x406006 x5).f1) ((rd_T25 x406006 x5).f2) ((rd_T25 x406006 x5).f3) ((rd_T25 x406006 x5).f4) ((rd_T25 x406006 x5).f5) ((rd_T25 x406006 x5).f6) x406000).bind fun t408 => (if t408 = true then (columbariumlaw13_flat.l0 k (wrap64 (x5 + 1)) x406000 x406001 x406002 x406003 x406004 x406005 x406006) else (some false))) else (none)) else (some true)
def columbariumlaw13_flat.f : Nat → Int → ByteArray → Int → Int → ByteArray → List ByteArray → List (S25) → Int → Option (Bool)
 | 0, _, _, _, _, _, _, _, _ => none
 | k + 1, a0_0, a0_1, a0_2, a0_3, a0_4, l0_5, l0_6, a1 => if a0_0 = 3 then (if (l0_6.length : Int) = 1 then (if 0 < (l0_6.length : Int) then (some (decide (((rd_T25 l0_6 0).f0) > 3))) else (none)) else (some false)) else (if a0_0 = 1 then (columbariumlaw13_flat.j0 k a1 (a0_0 == 1) a0_0 a0_1 a0_2 a0_3 a0_4 l0_5 l0_6) else (columbariumlaw13_flat.j0 k a1 (a0_0 == 2) a0_0 a0_1 a0_2 a0_3 a0_4 l0_5 l0_6))
end
theorem columbariumlaw13_flat.mono_l : ∀ k, (∀ y0 y1 y2 y3 y4 y5 y6 y7, LeO (columbariumlaw13_flat.f k y0 y1 y2 y3 y4 y5 y6 y7) (columbariumlaw13_flat.f (k + 1) y0 y1 y2 y3 y4 y5 y6 y7)) ∧ (∀ y0 y1 y2 y3 y4 y5 y6 y7 y8, LeO (columbariumlaw13_flat.j0 k y0 y1 y2 y3 y4 y5 y6 y7 y8) (columbariumlaw13_flat.j0 (k + 1) y0 y1 y2 y3 y4 y5 y6 y7 y8)) ∧ (∀ y0 y1 y2 y3 y4 y5 y6 y7, LeO (columbariumlaw13_flat.j1 k y0 y1 y2 y3 y4 y5 y6 y7) (columbariumlaw13_flat.j1 (k + 1) y0 y1 y2 y3 y4 y5 y6 y7)) ∧ (∀ y0 y1 y2 y3 y4 y5 y6 y7, LeO (columbariumlaw13_flat.l0 k y0 y1 y2 y3 y4 y5 y6 y7) (columbariumlaw13_flat.l0 (k + 1) y0 y1 y2 y3 y4 y5 y6 y7))
 | 0 => ⟨fun _ _ _ _ _ _ _ _ r h => by simp [columbariumlaw13_flat.f] at h, fun _ _ _ _ _ _ _ _ _ r h => by simp [columbariumlaw13_flat.j0] at h, fun _ _ _ _ _ _ _ _ r h => by simp [columbariumlaw13_flat.j1] at h, fun _ _ _ _ _ _ _ _ r h => by simp [columbariumlaw13_flat.l0] at h⟩
 | k + 1 => by
  obtain ⟨ih0, ih1, ih2, ih3⟩ := columbariumlaw13_flat.mono_l k
  refine ⟨?_, ?_, ?_, ?_⟩
  ·intro y0 y1 y2 y3 y4 y5 y6 y7
   unfold columbariumlaw13_flat.f
   repeat' first
   | (with_reducible exact ih0 _ _ _ _ _ _ _ _)
   | (with_reducible exact ih1 _ _ _ _ _ _ _ _ _)
   | (with_reducible exact ih2 _ _ _ _ _ _ _ _)
   | (with_reducible exact ih3 _ _ _ _ _ _ _ _)
   | (with_reducible exact LeO.refl _)
   | (with_reducible exact LeO.none _)
   | (with_reducible refine LeO.ite ?_ ?_)
   | (with_reducible refine LeO.bind ?_ (fun _ => ?_))
   | exact ih0 _ _ _ _ _ _ _ _
   | exact ih1 _ _ _ _ _ _ _ _ _
   | exact ih2 _ _ _ _ _ _ _ _
   | exact ih3 _ _ _ _ _ _ _ _
   | exact LeO.none _
   | refine LeO.ite ?_ ?_
   | refine LeO.bind ?_ (fun _ => ?_)
  ·intro y0 y1 y2 y3 y4 y5 y6 y7 y8
   unfold columbariumlaw13_flat.j0
   repeat' first
   | (with_reducible exact ih0 _ _ _ _ _ _ _ _)
   | (with_reducible exact ih1 _ _ _ _ _ _ _ _ _)
   | (with_reducible exact ih2 _ _ _ _ _ _ _ _)
   | (with_reducible exact ih3 _ _ _ _ _ _ _ _)
   | (with_reducible exact LeO.refl _)
   | (with_reducible exact LeO.none _)
   | (with_reducible refine LeO.ite ?_ ?_)
   | (with_reducible refine LeO.bind ?_ (fun _ => ?_))
   | exact ih0 _ _ _ _ _ _ _ _
   | exact ih1 _ _ _ _ _ _ _ _ _
   | exact ih2 _ _ _ _ _ _ _ _
   | exact ih3 _ _ _ _ _ _ _ _
   | exact LeO.none _
   | refine LeO.ite ?_ ?_
   | refine LeO.bind ?_ (fun _ => ?_)
  ·intro y0 y1 y2 y3 y4 y5 y6 y7
   unfold columbariumlaw13_flat.j1
   repeat' first
   | (with_reducible exact ih0 _ _ _ _ _ _ _ _)
   | (with_reducible exact ih1 _ _ _ _ _ _ _ _ _)
   | (with_reducible exact ih2 _ _ _ _ _ _ _ _)
   | (with_reducible exact ih3 _ _ _ _ _ _ _ _)
   | (with_reducible exact LeO.refl _)
   | (with_reducible exact LeO.none _)
   | (with_reducible refine LeO.ite ?_ ?_)
   | (with_reducible refine LeO.bind ?_ (fun _ => ?_))
   | exact ih0 _ _ _ _ _ _ _ _
   | exact ih1 _ _ _ _ _ _ _ _ _
   | exact ih2 _ _ _ _ _ _ _ _
   | exact ih3 _ _ _ _ _ _ _ _
   | exact LeO.none _
   | refine LeO.ite ?_ ?_
   | refine LeO.bind ?_ (fun _ => ?_)
  ·intro y0 y1 y2 y3 y4 y5 y6 y7
   unfold columbariumlaw13_flat.l0
   repeat' first
   | (with_reducible exact ih0 _ _ _ _ _ _ _ _)
   | (with_reducible exact ih1 _ _ _ _ _ _ _ _ _)
   | (with_reducible exact ih2 _ _ _ _ _ _ _ _)
   | (with_reducible exact ih3 _ _ _ _ _ _ _ _)
   | (with_reducible exact LeO.refl _)
   | (with_reducible exact LeO.none _)
   | (with_reducible refine LeO.ite ?_ ?_)
   | (with_reducible refine LeO.bind ?_ (fun _ => ?_))
   | exact ih0 _ _ _ _ _ _ _ _
   | exact ih1 _ _ _ _ _ _ _ _ _
   | exact ih2 _ _ _ _ _ _ _ _
   | exact ih3 _ _ _ _ _ _ _ _
   | exact LeO.none _
   | refine LeO.ite ?_ ?_
   | refine LeO.bind ?_ (fun _ => ?_)
theorem columbariumlaw13_flat.mono : ∀ a0 a1 a2 a3 a4 a5 a6 a7 k, LeO (columbariumlaw13_flat.f k a0 a1 a2 a3 a4 a5 a6 a7) (columbariumlaw13_flat.f (k + 1) a0 a1 a2 a3 a4 a5 a6 a7) := by
 intro a0 a1 a2 a3 a4 a5 a6 a7 k
 obtain ⟨ih0, ih1, ih2, ih3⟩ := columbariumlaw13_flat.mono_l k
 exact ih0 a0 a1 a2 a3 a4 a5 a6 a7
def columbariumlaw13_flat.T11 : Bool × List (List Nat × List Nat) := (true, [([], []), ([0], [0]), ([], []), ([1, 2], [1, 2]), ([3], [3]), ([], []), ([5], [5]), ([4, 6], [4, 6]), ([7], [7])])
def columbariumlaw13_flat.B11 : List Nat := [0, 1, 0, 7, 15, 0, 32, 127, 255]
theorem columbariumlaw13_flat.tab11 : rtab .any (opsOf Try.f12 11) = columbariumlaw13_flat.T11 := by kernel_rfl
theorem columbariumlaw13_flat.bits11 : waitsOk columbariumlaw13_flat.T11.2 columbariumlaw13_flat.B11 = true := by kernel_rfl
set_option maxHeartbeats 8000000 in
set_option maxRecDepth 100000 in
theorem columbariumlaw13_flat.calls (k : Nat) : ∀ (a0_0 : Int) (a0_1 : ByteArray) (a0_2 : Int) (a0_3 : Int) (a0_4 : ByteArray) (A0_5 : Option Addr) (c0_5 : Nat) (l0_5 : List ByteArray) (A0_6 : Option Addr) (c0_6 : Nat) (l0_6 : List (S25)) (a1 : Int) (r : Bool) (w : World) (hr0_5 : Kd.C Kd.string w A0_5 l0_5.length l0_5) (hc0_5 : l0_5.length ≤ c0_5) (hr0_6 : Kd.C k25 w A0_6 l0_6.length l0_6) (hc0_6 : l0_6.length ≤ c0_6) (h : columbariumlaw13_flat.f k a0_0 a0_1 a0_2 a0_3 a0_4 l0_5 l0_6 a1 = some r),
  Calls Try.prog 12 #[.agg #[.int .i64 a0_0, .string a0_1, .int .i64 a0_2, .int .i64 a0_3, .string a0_4, .slice A0_5 l0_5.length c0_5, .slice A0_6 l0_6.length c0_6], .int .i64 a1] w fun e w' => e = .returned (.bool r) ∧ Below w.heap.size w w' := by
 induction k using Nat.strongRecOn with
 | _ k ih =>
 intro a0_0 a0_1 a0_2 a0_3 a0_4 A0_5 c0_5 l0_5 A0_6 c0_6 l0_6 a1 r w hr0_5 hc0_5 hr0_6 hc0_6 h
 cases k with
 | zero => exact absurd h (by simp [columbariumlaw13_flat.f])
 | succ k =>
 simp only [columbariumlaw13_flat.f] at h
 have hu25 := Try.underlying25
 have HR0_5 := zM hr0_5
 have HC0_5 := zM hc0_5
 clear hr0_5 hc0_5
 have HR0_6 := zM hr0_6
 have HC0_6 := zM hc0_6
 clear hr0_6 hc0_6
 have HB := zM (Below.refl w.heap.size w)
 have H : (if a0_0 = 3 then (if (l0_6.length : Int) = 1 then (if 0 < (l0_6.length : Int) then (some (decide (((rd_T25 l0_6 0).f0) > 3))) else (none)) else (some false)) else (if a0_0 = 1 then (columbariumlaw13_flat.j0 k a1 (a0_0 == 1) a0_0 a0_1 a0_2 a0_3 a0_4 l0_5 l0_6) else (columbariumlaw13_flat.j0 k a1 (a0_0 == 2) a0_0 a0_1 a0_2 a0_3 a0_4 l0_5 l0_6))) = some r := h
 clear h
 by_cases c3 : a0_0 = 3
 ·rw [if_pos c3] at H
  have c3b0 : (a0_0 == 3) = true := beq_iff_eq.mpr c3
  have c3b1 : (a0_0 != 3) = false := bne_eq_false_iff_eq.mpr c3
  clear c3
  by_cases c4 : (l0_6.length : Int) = 1
  ·rw [if_pos c4] at H
   have c4b0 : ((l0_6.length : Int) == 1) = true := beq_iff_eq.mpr c4
   have c4b1 : ((l0_6.length : Int) != 1) = false := bne_eq_false_iff_eq.mpr c4
   clear c4
   by_cases c5 : 0 < (l0_6.length : Int)
   ·rw [if_pos c5] at H
    have c5b0 : decide (0 < (l0_6.length : Int)) = true := decide_eq_true c5
    have c5b1 : decide (0 < l0_6.length) = true := decide_eq_true (by omega)
    clear c5
    obtain rfl := Option.some.inj H
    go_enter Try.func12, Try.ntmps12
    go_wp2_with (first | ((with_reducible refine gate_dst (N := 2) rfl ?_); (try (refine gate_guard (by rfl) ?_; dsimp only)); refine box_event ?hg (N := 2) ?hd (cs := #[.int .i64 a0_0, .string a0_1, .int .i64 a0_2, .int .i64 a0_3, .string a0_4, .slice A0_5 l0_5.length c0_5, .slice A0_6 l0_6.length c0_6]) (t := 25) ?hr ?_; (case hd => rfl); (case hg => rfl); (case hr => first | (go_simp; done) | (go_simp; rfl)); intro gb405 hg w6 hbox hb; have BK405 := zM (hbox); have GW405 := zM ((by rw [hg]; exact (below_size (mB HB.out)) : w.heap.size ≤ gb405)); replace HB := zM (below_step (mB HB.out) hb); have GE405 := GW405; clear hb hbox hg; obtain ⟨hcz7_0, hcz7_1, hcz7_2, hcz7_3, hcz7_4, hcz7_5, hcz7_6, hfz7_0, hfz7_1, hfz7_2, hfz7_3, hfz7_4, hfz7_5, hfz7_6⟩ := cells_7 BK405.out; have p406 : 0 ≤ (0 : Int) := (by omega); have q406 : 0 < (l0_6.length : Int) := zA; obtain ⟨ad406, A406_5, c406_5, A406_6, c406_6, e406, hx406_0, hx406_1, hx406_2, hx406_3, hx406_4, hx406_5, hx406_6, hl406_5, hi406_5, hl406_6, hi406_6⟩ := at_T25 HR0_6.out 0 p406 q406; cases e406; have qi406 : (0 < l0_6.length) = True := eq_true (by omega); (try rw [show ((0 : Int)).toNat = 0 from rfl] at hx406_0); (try rw [show 0 * 7 = 0 from rfl] at hx406_0); (try rw [Addr.add_zero'] at hx406_0); (try rw [show ((0 : Int)).toNat = 0 from rfl] at hx406_1); (try rw [show 0 * 7 = 0 from rfl] at hx406_1); (try rw [Addr.add_zero'] at hx406_1); (try rw [show ((0 : Int)).toNat = 0 from rfl] at hx406_2); (try rw [show 0 * 7 = 0 from rfl] at hx406_2); (try rw [Addr.add_zero'] at hx406_2); (try rw [show ((0 : Int)).toNat = 0 from rfl] at hx406_3); (try rw [show 0 * 7 = 0 from rfl] at hx406_3); (try rw [Addr.add_zero'] at hx406_3); (try rw [show ((0 : Int)).toNat = 0 from rfl] at hx406_4); (try rw [show 0 * 7 = 0 from rfl] at hx406_4); (try rw [Addr.add_zero'] at hx406_4); (try rw [show ((0 : Int)).toNat = 0 from rfl] at hx406_5); (try rw [show 0 * 7 = 0 from rfl] at hx406_5); (try rw [Addr.add_zero'] at hx406_5); (try rw [show ((0 : Int)).toNat = 0 from rfl] at hx406_6); (try rw [show 0 * 7 = 0 from rfl] at hx406_6); (try rw [Addr.add_zero'] at hx406_6); replace hx406_0 := zH HB hx406_0; replace hx406_1 := zH HB hx406_1; replace hx406_2 := zH HB hx406_2; replace hx406_3 := zH HB hx406_3; replace hx406_4 := zH HB hx406_4; replace hx406_5 := zH HB hx406_5; replace hx406_6 := zH HB hx406_6; have HR406_5 := zM hi406_5; have HC406_5 := zM hl406_5; clear hi406_5 hl406_5; have HR406_6 := zM hi406_6; have HC406_6 := zM hl406_6; clear hi406_6 hl406_6; replace p406 := eq_true p406; replace q406 := eq_true q406))
    go_ret
    exact ⟨by first | rfl | (simp [errW_none, errW_some] <;> rfl) | (simp [*, errW_none, errW_some] <;> rfl), mZ⟩
   ·rw [if_neg c5] at H
    exact absurd H (by simp)
  ·rw [if_neg c4] at H
   have c4b0 : ((l0_6.length : Int) == 1) = false := beq_eq_false_iff_ne.mpr c4
   have c4b1 : ((l0_6.length : Int) != 1) = true := bne_iff_ne.mpr c4
   obtain rfl := Option.some.inj H
   go_enter Try.func12, Try.ntmps12
   go_wp2_with (first | ((with_reducible refine gate_dst (N := 2) rfl ?_); (try (refine gate_guard (by rfl) ?_; dsimp only)); refine box_event ?hg (N := 2) ?hd (cs := #[.int .i64 a0_0, .string a0_1, .int .i64 a0_2, .int .i64 a0_3, .string a0_4, .slice A0_5 l0_5.length c0_5, .slice A0_6 l0_6.length c0_6]) (t := 25) ?hr ?_; (case hd => rfl); (case hg => rfl); (case hr => first | (go_simp; done) | (go_simp; rfl)); intro gb405 hg w8 hbox hb; have BK405 := zM (hbox); have GW405 := zM ((by rw [hg]; exact (below_size (mB HB.out)) : w.heap.size ≤ gb405)); replace HB := zM (below_step (mB HB.out) hb); have GE405 := GW405; clear hb hbox hg; obtain ⟨hcz9_0, hcz9_1, hcz9_2, hcz9_3, hcz9_4, hcz9_5, hcz9_6, hfz9_0, hfz9_1, hfz9_2, hfz9_3, hfz9_4, hfz9_5, hfz9_6⟩ := cells_7 BK405.out))
   go_ret
   exact ⟨by first | rfl | (simp [errW_none, errW_some] <;> rfl) | (simp [*, errW_none, errW_some] <;> rfl), mZ⟩
 ·rw [if_neg c3] at H
  have c3b0 : (a0_0 == 3) = false := beq_eq_false_iff_ne.mpr c3
  have c3b1 : (a0_0 != 3) = true := bne_iff_ne.mpr c3
  have HC10 := zM H
  clear H
  go_enter Try.func12, Try.ntmps12
  go_upto_if 22 with (first | ((with_reducible refine gate_dst (N := 2) rfl ?_); (try (refine gate_guard (by rfl) ?_; dsimp only)); refine box_event ?hg (N := 2) ?hd (cs := #[.int .i64 a0_0, .string a0_1, .int .i64 a0_2, .int .i64 a0_3, .string a0_4, .slice A0_5 l0_5.length c0_5, .slice A0_6 l0_6.length c0_6]) (t := 25) ?hr ?_; (case hd => rfl); (case hg => rfl); (case hr => first | (go_simp; done) | (go_simp; rfl)); intro gb405 hg w11 hbox hb; have BK405 := zM (hbox); have GW405 := zM ((by rw [hg]; exact (below_size (mB HB.out)) : w.heap.size ≤ gb405)); replace HB := zM (below_step (mB HB.out) hb); have GE405 := GW405; clear hb hbox hg; obtain ⟨hcz12_0, hcz12_1, hcz12_2, hcz12_3, hcz12_4, hcz12_5, hcz12_6, hfz12_0, hfz12_1, hfz12_2, hfz12_3, hfz12_4, hfz12_5, hfz12_6⟩ := cells_7 BK405.out))
  (try simp only [Act.put, List.setIfInBounds_toArray, List.set_cons_zero, List.set_cons_succ])
  go_cut [22] (fun v22 wc => ∃ (kq : Nat) (x22_9 : Bool), v22 = .bool x22_9 ∧ Aside0 (columbariumlaw13_flat.j0 kq a1 x22_9 a0_0 a0_1 a0_2 a0_3 a0_4 l0_5 l0_6 = some r) ∧ Aside0 (kq ≤ k) ∧ Aside0 (wc.heap[gb405]? = some (.cells #[.int .i64 a0_0, .string a0_1, .int .i64 a0_2, .int .i64 a0_3, .string a0_4, (.slice A0_5 l0_5.length c0_5), (.slice A0_6 l0_6.length c0_6)] 25 (0, 0))) ∧ Aside0 (Below w.heap.size w wc))
  case first =>
   have H := HC10.out
   clear HC10
   by_cases c13 : a0_0 = 1
   ·rw [if_pos c13] at H
    have c13b0 : (a0_0 == 1) = true := beq_iff_eq.mpr c13
    have c13b1 : (a0_0 != 1) = false := bne_eq_false_iff_eq.mpr c13
    clear c13
    (first | rw [c13b0] | rw [c13b1] | (simp only [i64_w, i32_w]; rw [c13b0]) | skip)
    have H' := Aside0.mk H
    clear H
    go_wp2
    go_meet
    case rel => exact ⟨_, ((a0_0 == 1)), ya, H', ⟨by first | omega | exact Nat.le_refl _⟩, ⟨mK BK405.out⟩, ⟨mZ⟩⟩
   ·rw [if_neg c13] at H
    have c13b0 : (a0_0 == 1) = false := beq_eq_false_iff_ne.mpr c13
    have c13b1 : (a0_0 != 1) = true := bne_iff_ne.mpr c13
    (first | rw [c13b0] | rw [c13b1] | (simp only [i64_w, i32_w]; rw [c13b0]) | skip)
    have H' := Aside0.mk H
    clear H
    go_wp2
    go_meet
    case rel => exact ⟨_, ((a0_0 == 2)), ya, H', ⟨by first | omega | exact Nat.le_refl _⟩, ⟨mK BK405.out⟩, ⟨mZ⟩⟩
  case rest =>
   clear HC10
   try clear c3
   try clear c3b0
   try clear c3b1
   try clear c4
   try clear c4b0
   try clear c4b1
   try clear c5
   try clear c5b0
   try clear c5b1
   try clear c13
   try clear c13b0
   try clear c13b1
   try clear hcz12_0
   try clear hcz12_1
   try clear hcz12_2
   try clear hcz12_3
   try clear hcz12_4
   try clear hcz12_5
   try clear hcz12_6
   try clear hcz7_0
   try clear hcz7_1
   try clear hcz7_2
   try clear hcz7_3
   try clear hcz7_4
   try clear hcz7_5
   try clear hcz7_6
   try clear hcz9_0
   try clear hcz9_1
   try clear hcz9_2
   try clear hcz9_3
   try clear hcz9_4
   try clear hcz9_5
   try clear hcz9_6
   try clear hfz12_0
   try clear hfz12_1
   try clear hfz12_2
   try clear hfz12_3
   try clear hfz12_4
   try clear hfz12_5
   try clear hfz12_6
   try clear hfz7_0
   try clear hfz7_1
   try clear hfz7_2
   try clear hfz7_3
   try clear hfz7_4
   try clear hfz7_5
   try clear hfz7_6
   try clear hfz9_0
   try clear hfz9_1
   try clear hfz9_2
   try clear hfz9_3
   try clear hfz9_4
   try clear hfz9_5
   try clear hfz9_6
   try clear hx406_0
   try clear hx406_1
   try clear hx406_2
   try clear hx406_3
   try clear hx406_4
   try clear hx406_5
   try clear hx406_6
   try clear p406
   try clear q406
   obtain ⟨kq, x22_9, rfl, HA, HJ9, BK405, HB⟩ := hcut
   cases kq with
   | zero => exact absurd HA.out (by simp [columbariumlaw13_flat.j0])
   | succ kj9 =>
    have H := HA.out
    clear HA
    simp only [columbariumlaw13_flat.j0] at H
    by_cases c14 : x22_9 = true
    ·subst c14
     have H1 : (if a0_0 = a1 then (columbariumlaw13_flat.j1 kj9 true a0_0 a0_1 a0_2 a0_3 a0_4 l0_5 l0_6) else (columbariumlaw13_flat.j1 kj9 ((l0_6.length : Int) == 1) a0_0 a0_1 a0_2 a0_3 a0_4 l0_5 l0_6)) = some r := by rw [if_pos rfl] at H; exact H
     clear H
     have H := H1
     clear H1
     have HC15 := zM H
     clear H
     go_upto_region 6 with (fail)
     go_cut [34] (fun v34 wc => ∃ (kq : Nat) (x34_14 : Bool), v34 = .bool x34_14 ∧ Aside0 (columbariumlaw13_flat.j1 kq x34_14 a0_0 a0_1 a0_2 a0_3 a0_4 l0_5 l0_6 = some r) ∧ Aside0 (kq ≤ kj9) ∧ Aside0 (wc.heap[gb405]? = some (.cells #[.int .i64 a0_0, .string a0_1, .int .i64 a0_2, .int .i64 a0_3, .string a0_4, (.slice A0_5 l0_5.length c0_5), (.slice A0_6 l0_6.length c0_6)] 25 (0, 0))) ∧ Aside0 (Below w.heap.size w wc))
     case first =>
      have H := HC15.out
      clear HC15
      by_cases c16 : a0_0 = a1
      ·rw [if_pos c16] at H
       have c16b0 : (a0_0 == a1) = true := beq_iff_eq.mpr c16
       have c16b1 : (a0_0 != a1) = false := bne_eq_false_iff_eq.mpr c16
       clear c16
       (first | rw [c16b0] | rw [c16b1] | (simp only [i64_w, i32_w]; rw [c16b0]) | skip)
       have H' := Aside0.mk H
       clear H
       obtain ⟨hcz17_0, hcz17_1, hcz17_2, hcz17_3, hcz17_4, hcz17_5, hcz17_6, hfz17_0, hfz17_1, hfz17_2, hfz17_3, hfz17_4, hfz17_5, hfz17_6⟩ := cells_7 BK405.out
       go_wp2
       go_meet
       case rel => exact ⟨_, (true), ya, H', ⟨by have := HJ9.out; first | omega | exact Nat.le_refl _⟩, ⟨mK BK405.out⟩, ⟨mZ⟩⟩
      ·rw [if_neg c16] at H
       have c16b0 : (a0_0 == a1) = false := beq_eq_false_iff_ne.mpr c16
       have c16b1 : (a0_0 != a1) = true := bne_iff_ne.mpr c16
       (first | rw [c16b0] | rw [c16b1] | (simp only [i64_w, i32_w]; rw [c16b0]) | skip)
       have H' := Aside0.mk H
       clear H
       obtain ⟨hcz18_0, hcz18_1, hcz18_2, hcz18_3, hcz18_4, hcz18_5, hcz18_6, hfz18_0, hfz18_1, hfz18_2, hfz18_3, hfz18_4, hfz18_5, hfz18_6⟩ := cells_7 BK405.out
       go_wp2
       go_meet
       case rel => exact ⟨_, (((l0_6.length : Int) == 1)), ya, H', ⟨by have := HJ9.out; first | omega | exact Nat.le_refl _⟩, ⟨mK BK405.out⟩, ⟨mZ⟩⟩
     case rest =>
      clear HC15
      try clear c3
      try clear c3b0
      try clear c3b1
      try clear c4
      try clear c4b0
      try clear c4b1
      try clear c5
      try clear c5b0
      try clear c5b1
      try clear c13
      try clear c13b0
      try clear c13b1
      try clear c14
      try clear c16
      try clear c16b0
      try clear c16b1
      try clear hcz12_0
      try clear hcz12_1
      try clear hcz12_2
      try clear hcz12_3
      try clear hcz12_4
      try clear hcz12_5
      try clear hcz12_6
      try clear hcz17_0
      try clear hcz17_1
      try clear hcz17_2
      try clear hcz17_3
      try clear hcz17_4
      try clear hcz17_5
      try clear hcz17_6
      try clear hcz18_0
      try clear hcz18_1
      try clear hcz18_2
      try clear hcz18_3
      try clear hcz18_4
      try clear hcz18_5
      try clear hcz18_6
      try clear hcz7_0
      try clear hcz7_1
      try clear hcz7_2
      try clear hcz7_3
      try clear hcz7_4
      try clear hcz7_5
      try clear hcz7_6
      try clear hcz9_0
      try clear hcz9_1
      try clear hcz9_2
      try clear hcz9_3
      try clear hcz9_4
      try clear hcz9_5
      try clear hcz9_6
      try clear hfz12_0
      try clear hfz12_1
      try clear hfz12_2
      try clear hfz12_3
      try clear hfz12_4
      try clear hfz12_5
      try clear hfz12_6
      try clear hfz17_0
      try clear hfz17_1
      try clear hfz17_2
      try clear hfz17_3
      try clear hfz17_4
      try clear hfz17_5
      try clear hfz17_6
      try clear hfz18_0
      try clear hfz18_1
      try clear hfz18_2
      try clear hfz18_3
      try clear hfz18_4
      try clear hfz18_5
      try clear hfz18_6
      try clear hfz7_0
      try clear hfz7_1
      try clear hfz7_2
      try clear hfz7_3
      try clear hfz7_4
      try clear hfz7_5
      try clear hfz7_6
      try clear hfz9_0
      try clear hfz9_1
      try clear hfz9_2
      try clear hfz9_3
      try clear hfz9_4
      try clear hfz9_5
      try clear hfz9_6
      try clear hx406_0
      try clear hx406_1
      try clear hx406_2
      try clear hx406_3
      try clear hx406_4
      try clear hx406_5
      try clear hx406_6
      try clear p406
      try clear q406
      obtain ⟨kq, x34_14, rfl, HA, HJ14, BK405, HB⟩ := hcut
      cases kq with
      | zero => exact absurd HA.out (by simp [columbariumlaw13_flat.j1])
      | succ kj14 =>
       have H := HA.out
       clear HA
       simp only [columbariumlaw13_flat.j1] at H
       by_cases c19 : x34_14 = true
       ·subst c19
        have H1 : (some false) = some r := by rw [if_pos rfl] at H; exact H
        clear H
        have H := H1
        clear H1
        obtain rfl := Option.some.inj H
        go_wp2
        go_ret
        exact ⟨by first | rfl | (simp [errW_none, errW_some] <;> rfl) | (simp [*, errW_none, errW_some] <;> rfl), mZ⟩
       ·replace c19 := Bool.eq_false_iff.mpr c19
        subst c19
        have H1 : (columbariumlaw13_flat.l0 kj14 0 a0_0 a0_1 a0_2 a0_3 a0_4 l0_5 l0_6) = some r := by rw [if_neg (show ¬ (false = true) by decide)] at H; exact H
        clear H
        have H := H1
        clear H1
        have H' := Aside0.mk H
        clear H
        go_wp2
        go_loopg [5] kj14 (fun kq v5 w' => ∃ (x5_3 : Int), v5 = .int .i64 x5_3 ∧ Aside0 (columbariumlaw13_flat.l0 kq x5_3 a0_0 a0_1 a0_2 a0_3 a0_4 l0_5 l0_6 = some r) ∧ Aside0 (kq ≤ kj14) ∧ Aside0 (w'.heap[gb405]? = some (.cells #[.int .i64 a0_0, .string a0_1, .int .i64 a0_2, .int .i64 a0_3, .string a0_4, (.slice A0_5 l0_5.length c0_5), (.slice A0_6 l0_6.length c0_6)] 25 (0, 0))) ∧ Aside0 (Below w.heap.size w w'))
        case atStart => exact ⟨(0), ya, H', ⟨Nat.le_refl _⟩, ⟨mK BK405.out⟩, ⟨mZ⟩⟩
        case round =>
         clear H'
         try clear c3
         try clear c3b0
         try clear c3b1
         try clear c4
         try clear c4b0
         try clear c4b1
         try clear c5
         try clear c5b0
         try clear c5b1
         try clear c13
         try clear c13b0
         try clear c13b1
         try clear c14
         try clear c16
         try clear c16b0
         try clear c16b1
         try clear c19
         try clear hcz12_0
         try clear hcz12_1
         try clear hcz12_2
         try clear hcz12_3
         try clear hcz12_4
         try clear hcz12_5
         try clear hcz12_6
         try clear hcz17_0
         try clear hcz17_1
         try clear hcz17_2
         try clear hcz17_3
         try clear hcz17_4
         try clear hcz17_5
         try clear hcz17_6
         try clear hcz18_0
         try clear hcz18_1
         try clear hcz18_2
         try clear hcz18_3
         try clear hcz18_4
         try clear hcz18_5
         try clear hcz18_6
         try clear hcz7_0
         try clear hcz7_1
         try clear hcz7_2
         try clear hcz7_3
         try clear hcz7_4
         try clear hcz7_5
         try clear hcz7_6
         try clear hcz9_0
         try clear hcz9_1
         try clear hcz9_2
         try clear hcz9_3
         try clear hcz9_4
         try clear hcz9_5
         try clear hcz9_6
         try clear hfz12_0
         try clear hfz12_1
         try clear hfz12_2
         try clear hfz12_3
         try clear hfz12_4
         try clear hfz12_5
         try clear hfz12_6
         try clear hfz17_0
         try clear hfz17_1
         try clear hfz17_2
         try clear hfz17_3
         try clear hfz17_4
         try clear hfz17_5
         try clear hfz17_6
         try clear hfz18_0
         try clear hfz18_1
         try clear hfz18_2
         try clear hfz18_3
         try clear hfz18_4
         try clear hfz18_5
         try clear hfz18_6
         try clear hfz7_0
         try clear hfz7_1
         try clear hfz7_2
         try clear hfz7_3
         try clear hfz7_4
         try clear hfz7_5
         try clear hfz7_6
         try clear hfz9_0
         try clear hfz9_1
         try clear hfz9_2
         try clear hfz9_3
         try clear hfz9_4
         try clear hfz9_5
         try clear hfz9_6
         try clear hx406_0
         try clear hx406_1
         try clear hx406_2
         try clear hx406_3
         try clear hx406_4
         try clear hx406_5
         try clear hx406_6
         try clear p406
         try clear q406
         try clear BK405
         obtain ⟨x5_3, rfl, HA, HK3, BK405, HB⟩ := hrel
         cases gk with
         | zero => exact absurd HA.out (by simp [columbariumlaw13_flat.l0])
         | succ k3 =>
          have H := HA.out
          clear HA
          simp only [columbariumlaw13_flat.l0] at H
          by_cases c20 : x5_3 < (l0_6.length : Int)
          ·rw [if_pos c20] at H
           have c20b0 : decide (x5_3 < (l0_6.length : Int)) = true := decide_eq_true c20
           clear c20
           by_cases c21 : 0 ≤ x5_3
           ·rw [if_pos c21] at H
            have c21b0 : decide (0 ≤ x5_3) = true := decide_eq_true c21
            clear c21
            replace H := Option.bind_eq_some_iff.mp H
            obtain ⟨t408, A220, H⟩ := H
            replace H : (if t408 = true then (columbariumlaw13_flat.l0 k3 (wrap64 (x5_3 + 1)) a0_0 a0_1 a0_2 a0_3 a0_4 l0_5 l0_6) else (some false)) = some r := H
            have A22 := zM A220
            clear A220
            by_cases c23 : t408 = true
            ·subst c23
             have H1 : (columbariumlaw13_flat.l0 k3 (wrap64 (x5_3 + 1)) a0_0 a0_1 a0_2 a0_3 a0_4 l0_5 l0_6) = some r := by rw [if_pos rfl] at H; exact H
             clear H
             have H := H1
             clear H1
             have H' := Aside0.mk H
             clear H
             obtain ⟨hcz24_0, hcz24_1, hcz24_2, hcz24_3, hcz24_4, hcz24_5, hcz24_6, hfz24_0, hfz24_1, hfz24_2, hfz24_3, hfz24_4, hfz24_5, hfz24_6⟩ := cells_7 BK405.out
             try go_wp2
             replace BK405 := zM (blk_drew BK405.out)
             replace HB := zM (below_drew1 HB.out)
             have p407 : 0 ≤ (x5_3 : Int) := zA
             have q407 : x5_3 < (l0_6.length : Int) := zA
             obtain ⟨ad407, A407_5, c407_5, A407_6, c407_6, e407, hx407_0, hx407_1, hx407_2, hx407_3, hx407_4, hx407_5, hx407_6, hl407_5, hi407_5, hl407_6, hi407_6⟩ := at_T25 HR0_6.out x5_3 p407 q407
             have hw407_6 := hx407_6
             have hw407_5 := hx407_5
             have hw407_4 := hx407_4
             have hw407_3 := hx407_3
             have hw407_2 := hx407_2
             have hw407_1 := hx407_1
             have hw407_0 := hx407_0
             cases e407
             replace hx407_0 := zH HB hx407_0
             replace hx407_1 := zH HB hx407_1
             replace hx407_2 := zH HB hx407_2
             replace hx407_3 := zH HB hx407_3
             replace hx407_4 := zH HB hx407_4
             replace hx407_5 := zH HB hx407_5
             replace hx407_6 := zH HB hx407_6
             have HR407_5 := zM hi407_5
             have HC407_5 := zM hl407_5
             clear hi407_5 hl407_5
             have HR407_6 := zM hi407_6
             have HC407_6 := zM hl407_6
             clear hi407_6 hl407_6
             replace p407 := eq_true p407
             replace q407 := eq_true q407
             refine start_ (n := 9) (S := fun w' => w'.cell? ⟨gb405, 0, none⟩ = some (.int .i64 a0_0) ∧ w'.cell? ⟨gb405, 1, none⟩ = some (.string a0_1) ∧ w'.cell? ⟨gb405, 2, none⟩ = some (.int .i64 a0_2) ∧ w'.cell? ⟨gb405, 3, none⟩ = some (.int .i64 a0_3) ∧ w'.cell? ⟨gb405, 4, none⟩ = some (.string a0_4) ∧ w'.cell? ⟨gb405, 5, none⟩ = some (.slice A0_5 l0_5.length c0_5) ∧ w'.cell? ⟨gb405, 6, none⟩ = some (.slice (some ad407) l0_6.length c0_6) ∧ w'.cell? (ad407.add ((x5_3).toNat * 7)) = some (.int .i64 ((rd_T25 l0_6 x5_3).f0)) ∧ w'.cell? ⟨(ad407.add ((x5_3).toNat * 7)).block, (ad407.add ((x5_3).toNat * 7)).off + 1, none⟩ = some (.string ((rd_T25 l0_6 x5_3).f1)) ∧ w'.cell? ⟨(ad407.add ((x5_3).toNat * 7)).block, (ad407.add ((x5_3).toNat * 7)).off + 2, none⟩ = some (.int .i64 ((rd_T25 l0_6 x5_3).f2)) ∧ w'.cell? ⟨(ad407.add ((x5_3).toNat * 7)).block, (ad407.add ((x5_3).toNat * 7)).off + 3, none⟩ = some (.int .i64 ((rd_T25 l0_6 x5_3).f3)) ∧ w'.cell? ⟨(ad407.add ((x5_3).toNat * 7)).block, (ad407.add ((x5_3).toNat * 7)).off + 4, none⟩ = some (.string ((rd_T25 l0_6 x5_3).f4)) ∧ w'.cell? ⟨(ad407.add ((x5_3).toNat * 7)).block, (ad407.add ((x5_3).toNat * 7)).off + 5, none⟩ = some (.slice A407_5 ((rd_T25 l0_6 x5_3).f5).length c407_5) ∧ w'.cell? ⟨(ad407.add ((x5_3).toNat * 7)).block, (ad407.add ((x5_3).toNat * 7)).off + 6, none⟩ = some (.slice A407_6 ((rd_T25 l0_6 x5_3).f6).length c407_6)) (ds := []) #[false, false, false, false, false, false, false, false, false] (by kernel_rfl) rfl rfl (zI7 BK405 ⟨(zH HB hw407_0), (zH HB hw407_1), (zH HB hw407_2), (zH HB hw407_3), (zH HB hw407_4), (zH HB hw407_5), (zH HB hw407_6)⟩) (fun hHeld => ?_); refine with_tabW columbariumlaw13_flat.tab11 columbariumlaw13_flat.bits11 (fun HT_ HW_ => ?_)
             generalize wr.drew = w25 at BK405 HB HR407_5 HR407_6 hx407_0 hx407_1 hx407_2 hx407_3 hx407_4 hx407_5 hx407_6 hHeld ⊢
             refine pure_ (i := 0) (N := some 42) (v := ?_) (a' := ?_) #[true, false, false, false, false, false, false, false, false] rfl rfl (any_of HT_.out (by kernel_rfl)) (fun _ _ _ h => h) (Or.inl ⟨by rfl, ?_⟩) ?_ ?_
             rotate_left
             ·intro w'
              go_simp
              with_reducible rfl
             rotate_left
             ·simp only [Act.put, List.setIfInBounds_toArray, List.set_cons_zero, List.set_cons_succ, i64_w, i32_w]
              rfl
             refine pure_ (i := 2) (N := some 44) (v := ?_) (a' := ?_) #[true, false, true, false, false, false, false, false, false] rfl rfl (any_of HT_.out (by kernel_rfl)) (fun _ _ _ h => h) (Or.inl ⟨by rfl, ?_⟩) ?_ ?_
             rotate_left
             ·intro w'
              go_simp
              with_reducible rfl
             rotate_left
             ·simp only [Act.put, List.setIfInBounds_toArray, List.set_cons_zero, List.set_cons_succ, i64_w, i32_w]
              rfl
             refine pure_ (i := 5) (N := some 47) (v := ?_) (a' := ?_) #[true, false, true, false, false, true, false, false, false] rfl rfl (any_of HT_.out (by kernel_rfl)) (fun _ _ _ h => h) (Or.inl ⟨by rfl, ?_⟩) ?_ ?_
             rotate_left
             ·intro w'
              go_simp
              with_reducible rfl
             rotate_left
             ·simp only [Act.put, List.setIfInBounds_toArray, List.set_cons_zero, List.set_cons_succ, i64_w, i32_w]
              rfl
             refine take_ (i := 1) (N := some 43) (v := ?_) (a' := ?_) #[true, true, true, false, false, true, false, false, false] rfl rfl (take_ofW HT_.out HW_.out (by kernel_rfl)) (fun _ _ _ h => h) (Or.inl ⟨by rfl, ?_⟩) hHeld ?_ ?_
             rotate_left
             ·rintro w' ⟨s0, s1, s2, s3, s4, s5, s6, s7, s8, s9, s10, s11, s12, s13⟩
              go_simp
              with_reducible rfl
             rotate_left
             ·simp only [Act.put, List.setIfInBounds_toArray, List.set_cons_zero, List.set_cons_succ, i64_w, i32_w]
              rfl
             refine pure_ (i := 3) (N := some 45) (v := ?_) (a' := ?_) #[true, true, true, true, false, true, false, false, false] rfl rfl (any_of HT_.out (by kernel_rfl)) (fun _ _ _ h => h) (Or.inl ⟨by rfl, ?_⟩) ?_ ?_
             rotate_left
             ·intro w'
              go_simp
              with_reducible rfl
             rotate_left
             ·simp only [Act.put, List.setIfInBounds_toArray, List.set_cons_zero, List.set_cons_succ, i64_w, i32_w]
              rfl
             refine take_ (i := 4) (N := some 46) (v := ?_) (a' := ?_) #[true, true, true, true, true, true, false, false, false] rfl rfl (take_ofW HT_.out HW_.out (by kernel_rfl)) (fun _ _ _ h => h) (Or.inl ⟨by rfl, ?_⟩) hHeld ?_ ?_
             rotate_left
             ·rintro w' ⟨s0, s1, s2, s3, s4, s5, s6, s7, s8, s9, s10, s11, s12, s13⟩
              go_simp
              with_reducible rfl
             rotate_left
             ·simp only [Act.put, List.setIfInBounds_toArray, List.set_cons_zero, List.set_cons_succ, i64_w, i32_w]
              rfl
             refine take_ (i := 6) (N := some 48) (v := ?_) (a' := ?_) #[true, true, true, true, true, true, true, false, false] rfl rfl (take_ofW HT_.out HW_.out (by kernel_rfl)) (fun _ _ _ h => h) (Or.inl ⟨by rfl, ?_⟩) hHeld ?_ ?_
             rotate_left
             ·rintro w' ⟨s0, s1, s2, s3, s4, s5, s6, s7, s8, s9, s10, s11, s12, s13⟩
              go_simp
              with_reducible rfl
             rotate_left
             ·simp only [Act.put, List.setIfInBounds_toArray, List.set_cons_zero, List.set_cons_succ, i64_w, i32_w]
              rfl
             refine one_ (i := 7) (N := some 49) #[true, true, true, true, true, true, true, true, false] rfl rfl (one_of HT_.out (by kernel_rfl)) (by decide) (fun K hK => ?_)
             refine goes_ Try.func12 (by kernel_rfl) rfl #[.agg #[.int .i64 ((rd_T25 l0_6 x5_3).f0), .string ((rd_T25 l0_6 x5_3).f1), .int .i64 ((rd_T25 l0_6 x5_3).f2), .int .i64 ((rd_T25 l0_6 x5_3).f3), .string ((rd_T25 l0_6 x5_3).f4), .slice A407_5 ((rd_T25 l0_6 x5_3).f5).length c407_5, .slice A407_6 ((rd_T25 l0_6 x5_3).f6).length c407_6], .int .i64 a0_0] (by rfl) rfl rfl yb ?_
             with_reducible refine (ih k3 (by have := HJ9.out; have := HJ14.out; have := HK3.out; omega) ((rd_T25 l0_6 x5_3).f0) ((rd_T25 l0_6 x5_3).f1) ((rd_T25 l0_6 x5_3).f2) ((rd_T25 l0_6 x5_3).f3) ((rd_T25 l0_6 x5_3).f4) _ _ ((rd_T25 l0_6 x5_3).f5) _ _ ((rd_T25 l0_6 x5_3).f6) a0_0 true _ ?side1 ?side2 ?side3 ?side4 A22.out).mono ?_
             (case side1 => exact zC (Kd.C_below HR407_5.out HB.out))
             (case side2 => first | exact HC407_5.out | exact Kd.V_mono HC407_5.out (fun k_ hk_ => by grind))
             (case side3 => exact zC (Kd.C_below HR407_6.out HB.out))
             (case side4 => first | exact HC407_6.out | exact Kd.V_mono HC407_6.out (fun k_ hk_ => by grind))
             rintro e w26 ⟨rfl, hb⟩
             refine ⟨_, rfl, ?_⟩
             replace BK405 := zK BK405 hb
             replace HB := zM (below_step mZ hb)
             (try clear hb)
             (try clear hb2)
             (try clear hk)
             (try clear hi)
             refine hK.out _ _ (zI7 BK405 ⟨(zH HB hw407_0), (zH HB hw407_1), (zH HB hw407_2), (zH HB hw407_3), (zH HB hw407_4), (zH HB hw407_5), (zH HB hw407_6)⟩) (fun hHeld => ?_)
             clear hK K
             refine norm_ (a' := ?_) ?_ ?_
             rotate_left
             ·show Act.put _ (some 49) _ = _
              simp only [Act.put, List.setIfInBounds_toArray, List.set_cons_zero, List.set_cons_succ, i64_w, i32_w]
              rfl
             refine pure_ (i := 8) (N := some 50) (v := ?_) (a' := ?_) #[true, true, true, true, true, true, true, true, true] rfl rfl (any_of HT_.out (by kernel_rfl)) (fun _ _ _ h => h) (Or.inl ⟨by rfl, ?_⟩) ?_ ?_
             rotate_left
             ·intro w'
              go_simp
              with_reducible rfl
             rotate_left
             ·simp only [Act.put, List.setIfInBounds_toArray, List.set_cons_zero, List.set_cons_succ, i64_w, i32_w]
              rfl
             refine done_ (done_of HT_.out (by kernel_rfl)) ?_
             try go_wp2
             go_roundg k3
             case measure => have := HJ9.out; have := HJ14.out; have := HK3.out; omega
             case rel => exact ⟨(wrap64 (x5_3 + 1)), ya, H', ⟨by have := HJ9.out; have := HJ14.out; have := HK3.out; omega⟩, ⟨mK BK405.out⟩, ⟨mZ⟩⟩
            ·replace c23 := Bool.eq_false_iff.mpr c23
             subst c23
             have H1 : (some false) = some r := by rw [if_neg (show ¬ (false = true) by decide)] at H; exact H
             clear H
             have H := H1
             clear H1
             obtain rfl := Option.some.inj H
             obtain ⟨hcz27_0, hcz27_1, hcz27_2, hcz27_3, hcz27_4, hcz27_5, hcz27_6, hfz27_0, hfz27_1, hfz27_2, hfz27_3, hfz27_4, hfz27_5, hfz27_6⟩ := cells_7 BK405.out
             try go_wp2
             replace BK405 := zM (blk_drew BK405.out)
             replace HB := zM (below_drew1 HB.out)
             have p407 : 0 ≤ (x5_3 : Int) := zA
             have q407 : x5_3 < (l0_6.length : Int) := zA
             obtain ⟨ad407, A407_5, c407_5, A407_6, c407_6, e407, hx407_0, hx407_1, hx407_2, hx407_3, hx407_4, hx407_5, hx407_6, hl407_5, hi407_5, hl407_6, hi407_6⟩ := at_T25 HR0_6.out x5_3 p407 q407
             have hw407_6 := hx407_6
             have hw407_5 := hx407_5
             have hw407_4 := hx407_4
             have hw407_3 := hx407_3
             have hw407_2 := hx407_2
             have hw407_1 := hx407_1
             have hw407_0 := hx407_0
             cases e407
             replace hx407_0 := zH HB hx407_0
             replace hx407_1 := zH HB hx407_1
             replace hx407_2 := zH HB hx407_2
             replace hx407_3 := zH HB hx407_3
             replace hx407_4 := zH HB hx407_4
             replace hx407_5 := zH HB hx407_5
             replace hx407_6 := zH HB hx407_6
             have HR407_5 := zM hi407_5
             have HC407_5 := zM hl407_5
             clear hi407_5 hl407_5
             have HR407_6 := zM hi407_6
             have HC407_6 := zM hl407_6
             clear hi407_6 hl407_6
             replace p407 := eq_true p407
             replace q407 := eq_true q407
             refine start_ (n := 9) (S := fun w' => w'.cell? ⟨gb405, 0, none⟩ = some (.int .i64 a0_0) ∧ w'.cell? ⟨gb405, 1, none⟩ = some (.string a0_1) ∧ w'.cell? ⟨gb405, 2, none⟩ = some (.int .i64 a0_2) ∧ w'.cell? ⟨gb405, 3, none⟩ = some (.int .i64 a0_3) ∧ w'.cell? ⟨gb405, 4, none⟩ = some (.string a0_4) ∧ w'.cell? ⟨gb405, 5, none⟩ = some (.slice A0_5 l0_5.length c0_5) ∧ w'.cell? ⟨gb405, 6, none⟩ = some (.slice (some ad407) l0_6.length c0_6) ∧ w'.cell? (ad407.add ((x5_3).toNat * 7)) = some (.int .i64 ((rd_T25 l0_6 x5_3).f0)) ∧ w'.cell? ⟨(ad407.add ((x5_3).toNat * 7)).block, (ad407.add ((x5_3).toNat * 7)).off + 1, none⟩ = some (.string ((rd_T25 l0_6 x5_3).f1)) ∧ w'.cell? ⟨(ad407.add ((x5_3).toNat * 7)).block, (ad407.add ((x5_3).toNat * 7)).off + 2, none⟩ = some (.int .i64 ((rd_T25 l0_6 x5_3).f2)) ∧ w'.cell? ⟨(ad407.add ((x5_3).toNat * 7)).block, (ad407.add ((x5_3).toNat * 7)).off + 3, none⟩ = some (.int .i64 ((rd_T25 l0_6 x5_3).f3)) ∧ w'.cell? ⟨(ad407.add ((x5_3).toNat * 7)).block, (ad407.add ((x5_3).toNat * 7)).off + 4, none⟩ = some (.string ((rd_T25 l0_6 x5_3).f4)) ∧ w'.cell? ⟨(ad407.add ((x5_3).toNat * 7)).block, (ad407.add ((x5_3).toNat * 7)).off + 5, none⟩ = some (.slice A407_5 ((rd_T25 l0_6 x5_3).f5).length c407_5) ∧ w'.cell? ⟨(ad407.add ((x5_3).toNat * 7)).block, (ad407.add ((x5_3).toNat * 7)).off + 6, none⟩ = some (.slice A407_6 ((rd_T25 l0_6 x5_3).f6).length c407_6)) (ds := []) #[false, false, false, false, false, false, false, false, false] (by kernel_rfl) rfl rfl (zI7 BK405 ⟨(zH HB hw407_0), (zH HB hw407_1), (zH HB hw407_2), (zH HB hw407_3), (zH HB hw407_4), (zH HB hw407_5), (zH HB hw407_6)⟩) (fun hHeld => ?_); refine with_tabW columbariumlaw13_flat.tab11 columbariumlaw13_flat.bits11 (fun HT_ HW_ => ?_)
             generalize wr.drew = w28 at BK405 HB HR407_5 HR407_6 hx407_0 hx407_1 hx407_2 hx407_3 hx407_4 hx407_5 hx407_6 hHeld ⊢
             refine pure_ (i := 0) (N := some 42) (v := ?_) (a' := ?_) #[true, false, false, false, false, false, false, false, false] rfl rfl (any_of HT_.out (by kernel_rfl)) (fun _ _ _ h => h) (Or.inl ⟨by rfl, ?_⟩) ?_ ?_
             rotate_left
             ·intro w'
              go_simp
              with_reducible rfl
             rotate_left
             ·simp only [Act.put, List.setIfInBounds_toArray, List.set_cons_zero, List.set_cons_succ, i64_w, i32_w]
              rfl
             refine pure_ (i := 2) (N := some 44) (v := ?_) (a' := ?_) #[true, false, true, false, false, false, false, false, false] rfl rfl (any_of HT_.out (by kernel_rfl)) (fun _ _ _ h => h) (Or.inl ⟨by rfl, ?_⟩) ?_ ?_
             rotate_left
             ·intro w'
              go_simp
              with_reducible rfl
             rotate_left
             ·simp only [Act.put, List.setIfInBounds_toArray, List.set_cons_zero, List.set_cons_succ, i64_w, i32_w]
              rfl
             refine pure_ (i := 5) (N := some 47) (v := ?_) (a' := ?_) #[true, false, true, false, false, true, false, false, false] rfl rfl (any_of HT_.out (by kernel_rfl)) (fun _ _ _ h => h) (Or.inl ⟨by rfl, ?_⟩) ?_ ?_
             rotate_left
             ·intro w'
              go_simp
              with_reducible rfl
             rotate_left
             ·simp only [Act.put, List.setIfInBounds_toArray, List.set_cons_zero, List.set_cons_succ, i64_w, i32_w]
              rfl
             refine take_ (i := 1) (N := some 43) (v := ?_) (a' := ?_) #[true, true, true, false, false, true, false, false, false] rfl rfl (take_ofW HT_.out HW_.out (by kernel_rfl)) (fun _ _ _ h => h) (Or.inl ⟨by rfl, ?_⟩) hHeld ?_ ?_
             rotate_left
             ·rintro w' ⟨s0, s1, s2, s3, s4, s5, s6, s7, s8, s9, s10, s11, s12, s13⟩
              go_simp
              with_reducible rfl
             rotate_left
             ·simp only [Act.put, List.setIfInBounds_toArray, List.set_cons_zero, List.set_cons_succ, i64_w, i32_w]
              rfl
             refine pure_ (i := 3) (N := some 45) (v := ?_) (a' := ?_) #[true, true, true, true, false, true, false, false, false] rfl rfl (any_of HT_.out (by kernel_rfl)) (fun _ _ _ h => h) (Or.inl ⟨by rfl, ?_⟩) ?_ ?_
             rotate_left
             ·intro w'
              go_simp
              with_reducible rfl
             rotate_left
             ·simp only [Act.put, List.setIfInBounds_toArray, List.set_cons_zero, List.set_cons_succ, i64_w, i32_w]
              rfl
             refine take_ (i := 4) (N := some 46) (v := ?_) (a' := ?_) #[true, true, true, true, true, true, false, false, false] rfl rfl (take_ofW HT_.out HW_.out (by kernel_rfl)) (fun _ _ _ h => h) (Or.inl ⟨by rfl, ?_⟩) hHeld ?_ ?_
             rotate_left
             ·rintro w' ⟨s0, s1, s2, s3, s4, s5, s6, s7, s8, s9, s10, s11, s12, s13⟩
              go_simp
              with_reducible rfl
             rotate_left
             ·simp only [Act.put, List.setIfInBounds_toArray, List.set_cons_zero, List.set_cons_succ, i64_w, i32_w]
              rfl
             refine take_ (i := 6) (N := some 48) (v := ?_) (a' := ?_) #[true, true, true, true, true, true, true, false, false] rfl rfl (take_ofW HT_.out HW_.out (by kernel_rfl)) (fun _ _ _ h => h) (Or.inl ⟨by rfl, ?_⟩) hHeld ?_ ?_
             rotate_left
             ·rintro w' ⟨s0, s1, s2, s3, s4, s5, s6, s7, s8, s9, s10, s11, s12, s13⟩
              go_simp
              with_reducible rfl
             rotate_left
             ·simp only [Act.put, List.setIfInBounds_toArray, List.set_cons_zero, List.set_cons_succ, i64_w, i32_w]
              rfl
             refine one_ (i := 7) (N := some 49) #[true, true, true, true, true, true, true, true, false] rfl rfl (one_of HT_.out (by kernel_rfl)) (by decide) (fun K hK => ?_)
             refine goes_ Try.func12 (by kernel_rfl) rfl #[.agg #[.int .i64 ((rd_T25 l0_6 x5_3).f0), .string ((rd_T25 l0_6 x5_3).f1), .int .i64 ((rd_T25 l0_6 x5_3).f2), .int .i64 ((rd_T25 l0_6 x5_3).f3), .string ((rd_T25 l0_6 x5_3).f4), .slice A407_5 ((rd_T25 l0_6 x5_3).f5).length c407_5, .slice A407_6 ((rd_T25 l0_6 x5_3).f6).length c407_6], .int .i64 a0_0] (by rfl) rfl rfl yb ?_
             with_reducible refine (ih k3 (by have := HJ9.out; have := HJ14.out; have := HK3.out; omega) ((rd_T25 l0_6 x5_3).f0) ((rd_T25 l0_6 x5_3).f1) ((rd_T25 l0_6 x5_3).f2) ((rd_T25 l0_6 x5_3).f3) ((rd_T25 l0_6 x5_3).f4) _ _ ((rd_T25 l0_6 x5_3).f5) _ _ ((rd_T25 l0_6 x5_3).f6) a0_0 false _ ?side1 ?side2 ?side3 ?side4 A22.out).mono ?_
             (case side1 => exact zC (Kd.C_below HR407_5.out HB.out))
             (case side2 => first | exact HC407_5.out | exact Kd.V_mono HC407_5.out (fun k_ hk_ => by grind))
             (case side3 => exact zC (Kd.C_below HR407_6.out HB.out))
             (case side4 => first | exact HC407_6.out | exact Kd.V_mono HC407_6.out (fun k_ hk_ => by grind))
             rintro e w29 ⟨rfl, hb⟩
             refine ⟨_, rfl, ?_⟩
             replace BK405 := zK BK405 hb
             replace HB := zM (below_step mZ hb)
             (try clear hb)
             (try clear hb2)
             (try clear hk)
             (try clear hi)
             refine hK.out _ _ (zI7 BK405 ⟨(zH HB hw407_0), (zH HB hw407_1), (zH HB hw407_2), (zH HB hw407_3), (zH HB hw407_4), (zH HB hw407_5), (zH HB hw407_6)⟩) (fun hHeld => ?_)
             clear hK K
             refine norm_ (a' := ?_) ?_ ?_
             rotate_left
             ·show Act.put _ (some 49) _ = _
              simp only [Act.put, List.setIfInBounds_toArray, List.set_cons_zero, List.set_cons_succ, i64_w, i32_w]
              rfl
             refine pure_ (i := 8) (N := some 50) (v := ?_) (a' := ?_) #[true, true, true, true, true, true, true, true, true] rfl rfl (any_of HT_.out (by kernel_rfl)) (fun _ _ _ h => h) (Or.inl ⟨by rfl, ?_⟩) ?_ ?_
             rotate_left
             ·intro w'
              go_simp
              with_reducible rfl
             rotate_left
             ·simp only [Act.put, List.setIfInBounds_toArray, List.set_cons_zero, List.set_cons_succ, i64_w, i32_w]
              rfl
             refine done_ (done_of HT_.out (by kernel_rfl)) ?_
             try go_wp2
             go_ret
             exact ⟨by first | rfl | (simp [errW_none, errW_some] <;> rfl) | (simp [*, errW_none, errW_some] <;> rfl), mZ⟩
           ·rw [if_neg c21] at H
            exact absurd H (by simp)
          ·rw [if_neg c20] at H
           have c20b0 : decide (x5_3 < (l0_6.length : Int)) = false := decide_eq_false c20
           clear c20
           obtain rfl := Option.some.inj H
           obtain ⟨hcz30_0, hcz30_1, hcz30_2, hcz30_3, hcz30_4, hcz30_5, hcz30_6, hfz30_0, hfz30_1, hfz30_2, hfz30_3, hfz30_4, hfz30_5, hfz30_6⟩ := cells_7 BK405.out
           go_wp2
           go_ret
           exact ⟨by first | rfl | (simp [errW_none, errW_some] <;> rfl) | (simp [*, errW_none, errW_some] <;> rfl), mZ⟩
    ·replace c14 := Bool.eq_false_iff.mpr c14
     subst c14
     have H1 : (some true) = some r := by rw [if_neg (show ¬ (false = true) by decide)] at H; exact H
     clear H
     have H := H1
     clear H1
     obtain rfl := Option.some.inj H
     go_wp2
     go_ret
     exact ⟨by first | rfl | (simp [errW_none, errW_some] <;> rfl) | (simp [*, errW_none, errW_some] <;> rfl), mZ⟩

end Go.Proofs.Ytalpcnomfebdiaa.QPredNormal
