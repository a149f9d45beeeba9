-- Written by a program of this session (wip/myprint.py): the machine's side of a law
import Derived.Test.YtalpcnomfebdiaaQPredNormalx0
import Derived.Test.YtalpcnomfebdiaaQPredNormalx13
namespace Go.Proofs.Ytalpcnomfebdiaa.QPredNormal
open Go.RowKit Go.Proofs.YtalpcnomfebdiaaW.PrintWords Go.Proofs.YtalpcnomfebdiaaW.PrintLast Go.Proofs.YtalpcnomfebdiaaW.PrintMore
attribute [local go_sem] max2_int min2_int max_two min_two max_three min_three max_four min_four   -- for this text's walks alone
set_option linter.unusedVariables false
set_option linter.unusedSimpArgs false

/-! ### columbariumkeep_Tame: function 14 -/
def columbariumkeep_Tame.l0 : Nat → List ByteArray → Int → Int → Int → Int → List (S52) → Int → Int → List (S52) → Option (Int × Int × (List (S52)))
 | 0, _, _, _, _, _, _, _, _, _ => none
 | k + 1, x15, x16, x17, x435000, x435001, x435002, x437000, x437001, x437002 => if x17 < x16 then (if 0 ≤ x17 then (if x17 < (x15.length : Int) then (if x17 ≥ (x435002.length : Int) then (some (x437000, x437001, x437002)) else (if x17 < (x435002.length : Int) then (if ((rd_T52 x435002 x17).f1) = 0 then (columbariumkeep_Tame.l0 k x15 x16 (wrap64 (x17 + 1)) x435000 x435001 x435002 x437000 x437001 x437002) else (if x17 < 2 then ((columbariumkeep_Num.f (rdOf ByteArray.empty x15 x17) (Int.tmod ((rd_T52 x435002 x17).f2) 10)).bind fun bt443 => (if x437002.length < 2932031007402 then (columbariumkeep_Tame.l0 k x15 x16 (wrap64 (x17 + 1)) x435000 x435001 x435002 x437000 x437001 (x437002 ++ [(⟨bt443.1, bt443.2.1, bt443.2.2.1, bt443.2.2.2⟩ : S52)])) else (none))) else (if (((rd_T52 x435002 x17).f3).size : Int) > 3 then (if 0 ≤ 3 then (if 3 ≤ (((rd_T52 x435002 x17).f3).size : Int) then ((columbariumkeep_Str.f (rdOf ByteArray.empty x15 x17) (((rd_T52 x435002 x17).f3).extract 0 3)).bind fun bt450 => (if x437002.length < 2932031007402 then (columbariumkeep_Tame.l0 k x15 x16 (wrap64 (x17 + 1)) x435000 x435001 x435002 x437000 x437001 (x437002 ++ [(⟨bt450.1, bt450.2.1, bt450.2.2.1, bt450.2.2.2⟩ : S52)])) else (none))) else (none)) else (none)) else ((columbariumkeep_Str.f (rdOf ByteArray.empty x15 x17) ((rd_T52 x435002 x17).f3)).bind fun bt457 => (if x437002.length < 2932031007402 then (columbariumkeep_Tame.l0 k x15 x16 (wrap64 (x17 + 1)) x435000 x435001 x435002 x437000 x437001 (x437002 ++ [(⟨bt457.1, bt457.2.1, bt457.2.2.1, bt457.2.2.2⟩ : S52)])) else (none)))))) else (none))) else (none)) else (none)) else (some (x437000, x437001, x437002))
def columbariumkeep_Tame.f (k : Nat) (a0_0 : Int) (a0_1 : Int) (l0_2 : List (S52)) (a1 : Int) : Option (Int × Int × (List (S52))) := (some (([(⟨#[97]⟩ : ByteArray), (⟨#[98]⟩ : ByteArray), (⟨#[115]⟩ : ByteArray), (⟨#[116]⟩ : ByteArray)] : List ByteArray) : List ByteArray)).bind fun y437 => (columbariumkeep_Tame.l0 k y437 (y437.length : Int) 0 a0_0 a0_1 l0_2 (Int.tmod a0_0 100) a1 ([] : List (S52)))
theorem columbariumkeep_Tame.mono_l : ∀ k, (∀ y0 y1 y2 y3 y4 y5 y6 y7 y8, LeO (columbariumkeep_Tame.l0 k y0 y1 y2 y3 y4 y5 y6 y7 y8) (columbariumkeep_Tame.l0 (k + 1) y0 y1 y2 y3 y4 y5 y6 y7 y8))
 | 0 => fun _ _ _ _ _ _ _ _ _ r h => by simp [columbariumkeep_Tame.l0] at h
 | k + 1 => by
  have ih0 := columbariumkeep_Tame.mono_l k
  ·intro y0 y1 y2 y3 y4 y5 y6 y7 y8
   unfold columbariumkeep_Tame.l0
   repeat' first
   | (with_reducible exact ih0 _ _ _ _ _ _ _ _ _)
   | (with_reducible exact LeO.refl _)
   | (with_reducible exact LeO.none _)
   | (with_reducible refine LeO.ite ?_ ?_)
   | (with_reducible refine LeO.bind ?_ (fun _ => ?_))
   | exact ih0 _ _ _ _ _ _ _ _ _
   | exact LeO.none _
   | refine LeO.ite ?_ ?_
   | refine LeO.bind ?_ (fun _ => ?_)
theorem columbariumkeep_Tame.mono : ∀ a0 a1 a2 a3 k, LeO (columbariumkeep_Tame.f k a0 a1 a2 a3) (columbariumkeep_Tame.f (k + 1) a0 a1 a2 a3) := by
 intro a0 a1 a2 a3 k
 have ih0 := columbariumkeep_Tame.mono_l k
 unfold columbariumkeep_Tame.f
 repeat' first
   | (with_reducible exact ih0 _ _ _ _ _ _ _ _ _)
   | (with_reducible exact LeO.refl _)
   | (with_reducible exact LeO.none _)
   | (with_reducible refine LeO.ite ?_ ?_)
   | (with_reducible refine LeO.bind ?_ (fun _ => ?_))
   | exact ih0 _ _ _ _ _ _ _ _ _
   | exact LeO.none _
   | refine LeO.ite ?_ ?_
   | refine LeO.bind ?_ (fun _ => ?_)
def columbariumkeep_Tame.T9 : Bool × List (List Nat × List Nat) := (true, [([], []), ([0], [0]), ([], []), ([], []), ([3], [3]), ([4], [4]), ([2, 5], [2, 5]), ([6], [6]), ([1, 7, 6], [1, 7]), ([0, 1, 2, 3, 4, 5, 6, 7, 8], []), ([9, 8, 8, 0, 1, 2, 3, 4, 5, 6, 7, 8], [8, 9])])
def columbariumkeep_Tame.B9 : List Nat := [0, 1, 0, 0, 8, 24, 60, 124, 255, 511, 1023]
theorem columbariumkeep_Tame.tab9 : rtab .any (opsOf Try.f14 9) = columbariumkeep_Tame.T9 := by kernel_rfl
theorem columbariumkeep_Tame.bits9 : waitsOk columbariumkeep_Tame.T9.2 columbariumkeep_Tame.B9 = true := by kernel_rfl
def columbariumkeep_Tame.T13 : Bool × List (List Nat × List Nat) := (true, [([], []), ([0], [0]), ([], []), ([], []), ([2, 3], [2, 3]), ([4], [4]), ([1, 5, 4], [1, 5]), ([0, 1, 2, 3, 4, 5, 6], []), ([7, 6, 6, 0, 1, 2, 3, 4, 5, 6], [6, 7])])
def columbariumkeep_Tame.B13 : List Nat := [0, 1, 0, 0, 12, 28, 63, 127, 255]
theorem columbariumkeep_Tame.tab13 : rtab .any (opsOf Try.f14 13) = columbariumkeep_Tame.T13 := by kernel_rfl
theorem columbariumkeep_Tame.bits13 : waitsOk columbariumkeep_Tame.T13.2 columbariumkeep_Tame.B13 = true := by kernel_rfl
set_option maxHeartbeats 8000000 in
set_option maxRecDepth 100000 in
theorem columbariumkeep_Tame.calls (k : Nat) (a0_0 : Int) (a0_1 : Int) (A0_2 : Option Addr) (c0_2 : Nat) (l0_2 : List (S52)) (a1 : Int) (r1 : Int) (r2 : Int) (r3 : List (S52)) (w : World) (hr0_2 : Kd.C k52 w A0_2 l0_2.length l0_2) (hc0_2 : l0_2.length ≤ c0_2) (h : columbariumkeep_Tame.f k a0_0 a0_1 l0_2 a1 = some (r1, r2, r3)) :
  Calls Try.prog 14 #[.agg #[.int .i64 a0_0, .int .i64 a0_1, .slice A0_2 l0_2.length c0_2], .int .i64 a1] w fun e w' => ∃ v2_ : Value, e = .returned (.agg #[.int .i64 r1, .int .i64 r2, v2_]) ∧ Kd.R k52 52 w' w.heap.size (fun _ => True) v2_ r3 ∧ Below w.heap.size w w' := by
 have hu36 := Try.underlying36
 have hu52 := Try.underlying52
 have HR0_2 := zM hr0_2
 have HC0_2 := zM hc0_2
 clear hr0_2 hc0_2
 have HB := zM (Below.refl w.heap.size w)
 have H : ((some (([(⟨#[97]⟩ : ByteArray), (⟨#[98]⟩ : ByteArray), (⟨#[115]⟩ : ByteArray), (⟨#[116]⟩ : ByteArray)] : List ByteArray) : List ByteArray)).bind fun y437 => (columbariumkeep_Tame.l0 k y437 (y437.length : Int) 0 a0_0 a0_1 l0_2 (Int.tmod a0_0 100) a1 ([] : List (S52)))) = some (r1, r2, r3) := h
 clear h
 obtain ⟨y437, hy437⟩ : ∃ y_ : List ByteArray, y_ = (([(⟨#[97]⟩ : ByteArray), (⟨#[98]⟩ : ByteArray), (⟨#[115]⟩ : ByteArray), (⟨#[116]⟩ : ByteArray)] : List ByteArray)) := ⟨_, rfl⟩
 replace H : (columbariumkeep_Tame.l0 k y437 (y437.length : Int) 0 a0_0 a0_1 l0_2 (Int.tmod a0_0 100) a1 ([] : List (S52))) = some (r1, r2, r3) := by first | (rw [hy437]; with_reducible exact H) | (have H2_ := (Option.bind_some _ _).symm.trans H; rw [hy437]; with_reducible exact H2_) | (have H2_ := (Option.bind_some _ _).symm.trans H; with_reducible exact H2_) | with_reducible exact H | (rw [hy437]; exact H) | exact H
 have Ny437 := zM hy437
 clear hy437
 have H' := Aside0.mk H
 clear H
 go_enter Try.func14, Try.ntmps14
 go_wp2_with (first | ((with_reducible refine gate_dst (N := 2) rfl ?_); refine box_event ?hg (N := 2) ?hd (cs := #[.int .i64 a0_0, .int .i64 a0_1, .slice A0_2 l0_2.length c0_2]) (t := 36) ?hr ?_; (case hd => rfl); (case hg => rfl); (case hr => first | (go_simp; done) | (go_simp; rfl)); intro gb434 hg w3 hbox hb; have BK434 := zM (hbox); have GW434 := zM ((by rw [hg]; exact (below_size (mB HB.out)) : w.heap.size ≤ gb434)); replace HB := zM (below_step (mB HB.out) hb); have GE434 := GW434; clear hb hbox hg) | ((with_reducible refine gate_dst (N := 4) rfl ?_); refine box_event ?hg (N := 4) ?hd (cs := #[.int .i64 0, .int .i64 0, .slice none 0 0]) (t := 36) ?hr ?_; (case hd => rfl); (case hg => rfl); (case hr => first | (go_simp; done) | (go_simp; rfl)); intro gb435 hg w4 hbox hb; have BK435 := zM (hbox); have GW435 := zM ((by rw [hg]; exact (below_size mZ) : w.heap.size ≤ gb435)); replace HB := zM (below_step mZ hb); have GE435 := GW435; have NB434_435 := zL BK434 hg; have NB435_434 := zG BK434 hg; replace BK434 := zK BK434 hb; clear hb hbox hg; have hnb5 := NB434_435.out; have hnc5 := NB435_434.out; obtain ⟨hcz6_0, hcz6_1, hcz6_2, hfz6_0, hfz6_1, hfz6_2⟩ := cells_3 BK434.out) | ((with_reducible refine gate_dst (N := 5) rfl ?_); refine box_event ?hg (N := 5) ?hd (cs := #[.int .i64 0, .int .i64 0, .slice none 0 0]) (t := 36) ?hr ?_; (case hd => rfl); (case hg => rfl); (case hr => first | (go_simp; done) | (go_simp; rfl)); intro gb436 hg w7 hbox hb; have BK436 := zM (hbox); have GW436 := zM ((by rw [hg]; exact (below_size mZ) : w.heap.size ≤ gb436)); replace HB := zM (below_step mZ hb); have GE436 := GW436; have NB434_436 := zL BK434 hg; have NB436_434 := zG BK434 hg; replace BK434 := zK BK434 hb; have NB435_436 := zL BK435 hg; have NB436_435 := zG BK435 hg; replace BK435 := zK BK435 hb; clear hb hbox hg; have hnb8 := NB436_434.out; have hnc8 := NB434_436.out; have hnb9 := NB436_435.out; have hnc9 := NB435_436.out; obtain ⟨hcz10_0, hcz10_1, hcz10_2, hfz10_0, hfz10_1, hfz10_2⟩ := cells_3 BK436.out) | ((with_reducible refine gate_dst (N := 15) rfl ?_); refine Kd.R_lit Kd.string _ 9 ?hg (N := 15) ?hd (xs := ([(⟨#[97]⟩ : ByteArray), (⟨#[98]⟩ : ByteArray), (⟨#[115]⟩ : ByteArray), (⟨#[116]⟩ : ByteArray)] : List ByteArray)) (inner := [.string (⟨#[97]⟩ : ByteArray), .string (⟨#[98]⟩ : ByteArray), .string (⟨#[115]⟩ : ByteArray), .string (⟨#[116]⟩ : ByteArray)]) (ok := fun _ => True) (okp := fun _ => True) ?hr ?hp (fun _ hk => hk) trivial (Below.refl _ _) (Nat.le_refl _) (by simp) ?_; (case hd => rfl); (case hg => rfl); (case hr => first | (go_simp; done) | (go_simp; rfl)); (case hp => exact (Reps.one (show Kd.M Kd.string _ _ _ (⟨#[97]⟩ : ByteArray) [.string (⟨#[97]⟩ : ByteArray)] from rfl) (Reps.one (show Kd.M Kd.string _ _ _ (⟨#[98]⟩ : ByteArray) [.string (⟨#[98]⟩ : ByteArray)] from rfl) (Reps.one (show Kd.M Kd.string _ _ _ (⟨#[115]⟩ : ByteArray) [.string (⟨#[115]⟩ : ByteArray)] from rfl) (Reps.one (show Kd.M Kd.string _ _ _ (⟨#[116]⟩ : ByteArray) [.string (⟨#[116]⟩ : ByteArray)] from rfl) (Reps.none _ _)))))); intro v438 w11 ho12 hb hg_ hnew_; clear hg_ hnew_; (first | rw [← Ny437.out] at ho12 | (simp only [Int.reduceToNat] at ho12; rw [← Ny437.out] at ho12)); have HO439 := zM (Kd.R_lower ho12 (below_size mZ)); replace BK434 := zM (blk_below (zF BK434.out NB434_436.out) hb); replace BK435 := zM (blk_below (zF BK435.out NB435_436.out) hb); replace BK436 := zP3 BK436 hb; replace HB := zM (below_step mZ hb); clear hb ho12; obtain ⟨Ao13, co13, eo13⟩ := Kd.R_slice HO439.out; subst eo13))
 try simp only [Act.put, List.setIfInBounds_toArray, List.set_cons_zero, List.set_cons_succ]
 go_loopg [17] k (fun kq v17 w' => ∃ (x17_1 : Int) (x437002_1 : List (S52)) (u437002 : Value), v17 = .int .i64 x17_1 ∧ Aside0 (columbariumkeep_Tame.l0 kq y437 (y437.length : Int) x17_1 a0_0 a0_1 l0_2 (Int.tmod a0_0 100) a1 x437002_1 = some (r1, r2, r3)) ∧ Aside0 (kq ≤ k) ∧ Aside0 (Kd.R Kd.string 9 w' w.heap.size (fun _ => True) (.slice Ao13 y437.length co13) y437) ∧ Aside0 (Kd.R k52 52 w' w.heap.size (fun _ => True) u437002 x437002_1) ∧ Aside0 (w'.heap[gb434]? = some (.cells #[.int .i64 a0_0, .int .i64 a0_1, (.slice A0_2 l0_2.length c0_2)] 36 (0, 0))) ∧ Aside0 (w'.heap[gb435]? = some (.cells #[.int .i64 0, .int .i64 0, (.slice none 0 0)] 36 (0, 0))) ∧ Aside0 (w'.heap[gb436]? = some (.cells #[.int .i64 (Int.tmod a0_0 100), .int .i64 a1, u437002] 36 (0, 0))) ∧ Aside0 (Below w.heap.size w w'))
 case atStart => exact ⟨(0), (([] : List (S52))), (.slice none 0 0), ya, H', ⟨Nat.le_refl _⟩, ⟨mR HO439.out⟩, ⟨by first | exact Kd.R_nil _ _ _ _ _ | exact Kd.N_nil _ _ _ _ _ | exact Kd.V_nil _ _ _ _ _ | exact Kd.Q_nil _ _ _ _ _ | exact Kd.S_nil _ _ _ _ _⟩, ⟨mK BK434.out⟩, ⟨mK BK435.out⟩, ⟨mK BK436.out⟩, ⟨mZ⟩⟩
 case round =>
  clear H'
  try clear hcz10_0
  try clear hcz10_1
  try clear hcz10_2
  try clear hcz6_0
  try clear hcz6_1
  try clear hcz6_2
  try clear hfz10_0
  try clear hfz10_1
  try clear hfz10_2
  try clear hfz6_0
  try clear hfz6_1
  try clear hfz6_2
  try clear BK434
  try clear BK435
  try clear BK436
  obtain ⟨x17_1, x437002_1, u437002, rfl, HA, HK1, HO_15, HO_437002, BK434, BK435, BK436, HB⟩ := hrel
  cases gk with
  | zero => exact absurd HA.out (by simp [columbariumkeep_Tame.l0])
  | succ k1 =>
   have H := HA.out
   clear HA
   simp only [columbariumkeep_Tame.l0] at H
   by_cases c14 : x17_1 < (y437.length : Int)
   ·rw [if_pos c14] at H
    have c14b0 : decide (x17_1 < (y437.length : Int)) = true := decide_eq_true c14
    clear c14
    by_cases c15 : 0 ≤ x17_1
    ·rw [if_pos c15] at H
     have c15b0 : decide (0 ≤ x17_1) = true := decide_eq_true c15
     clear c15
     by_cases c16 : x17_1 < (y437.length : Int)
     ·rw [if_pos c16] at H
      have c16b0 : decide (x17_1 < (y437.length : Int)) = true := decide_eq_true c16
      clear c16
      by_cases c17 : x17_1 ≥ (l0_2.length : Int)
      ·rw [if_pos c17] at H
       have c17b0 : decide ((l0_2.length : Int) ≤ x17_1) = true := decide_eq_true c17
       clear c17
       simp only [Option.some.injEq, Prod.mk.injEq] at H
       obtain ⟨rfl, rfl, rfl⟩ := H
       have p440 : 0 ≤ (x17_1 : Int) := zA
       have q440 : x17_1 < (y437.length : Int) := zA
       obtain ⟨ad440, e440, hx440_0⟩ := Kd.at_string (Kd.R_reads' HO_15.out).2.2 x17_1 p440 q440
       cases e440
       replace p440 := eq_true p440
       replace q440 := eq_true q440
       have hnb18 := NB434_435.out
       have hnc18 := NB435_434.out
       have hnb19 := NB434_436.out
       have hnc19 := NB436_434.out
       obtain ⟨hcz20_0, hcz20_1, hcz20_2, hfz20_0, hfz20_1, hfz20_2⟩ := cells_3 BK434.out
       have hnb21 := NB436_435.out
       have hnc21 := NB435_436.out
       obtain ⟨hcz22_0, hcz22_1, hcz22_2, hfz22_0, hfz22_1, hfz22_2⟩ := cells_3 BK436.out
       obtain ⟨hcz23_0, hcz23_1, hcz23_2, hfz23_0, hfz23_1, hfz23_2⟩ := cells_3 BK435.out
       obtain ⟨Ao24, co24, eo24⟩ := Kd.R_slice HO_437002.out
       subst eo24
       go_wp2
       refine bodyPost_ret (results_cell_row rfl _ _ gb435 36 #[.int .i64 (Int.tmod a0_0 100), .int .i64 a1, .slice Ao24 x437002_1.length co24] (0, 0) _ rfl (by (with_reducible repeat (first | refine blk_drewN ?_ _ | refine blk_drew ?_ | refine blk_alloc ?_ _)); apply puts_3; (with_reducible repeat (first | refine blk_drewN ?_ _ | refine blk_drew ?_ | refine blk_alloc ?_ _)); exact BK435.out) Try.underlying36 rfl (by kernel_rfl)) rfl ?_
       exact ⟨_, by first | rfl | (simp [errW_none, errW_some] <;> rfl) | (simp [*, errW_none, errW_some] <;> rfl), by (with_reducible repeat (first | apply Kd.R_alloc | apply Kd.R_drewN | apply Kd.R_drew)); exact Kd.R_mono (zgR (Kd.R_types HO_437002.out BK435.out (by decide))) (fun _ hk => trivial), mZ⟩
      ·rw [if_neg c17] at H
       have c17b0 : decide ((l0_2.length : Int) ≤ x17_1) = false := decide_eq_false c17
       clear c17
       by_cases c25 : x17_1 < (l0_2.length : Int)
       ·rw [if_pos c25] at H
        have c25b0 : decide (x17_1 < (l0_2.length : Int)) = true := decide_eq_true c25
        clear c25
        by_cases c26 : ((rd_T52 l0_2 x17_1).f1) = 0
        ·rw [if_pos c26] at H
         have c26b0 : (((rd_T52 l0_2 x17_1).f1) == 0) = true := beq_iff_eq.mpr c26
         have c26b1 : (((rd_T52 l0_2 x17_1).f1) != 0) = false := bne_eq_false_iff_eq.mpr c26
         clear c26
         have H' := Aside0.mk H
         clear H
         have p440 : 0 ≤ (x17_1 : Int) := zA
         have q440 : x17_1 < (y437.length : Int) := zA
         obtain ⟨ad440, e440, hx440_0⟩ := Kd.at_string (Kd.R_reads' HO_15.out).2.2 x17_1 p440 q440
         cases e440
         replace p440 := eq_true p440
         replace q440 := eq_true q440
         have hnb27 := NB434_435.out
         have hnc27 := NB435_434.out
         have hnb28 := NB434_436.out
         have hnc28 := NB436_434.out
         obtain ⟨hcz29_0, hcz29_1, hcz29_2, hfz29_0, hfz29_1, hfz29_2⟩ := cells_3 BK434.out
         have p441 : 0 ≤ (x17_1 : Int) := zA
         have q441 : x17_1 < (l0_2.length : Int) := zA
         obtain ⟨ad441, e441, hx441_0, hx441_1, hx441_2, hx441_3⟩ := at_T52 HR0_2.out x17_1 p441 q441
         cases e441
         replace hx441_0 := zH HB hx441_0
         replace hx441_1 := zH HB hx441_1
         replace hx441_2 := zH HB hx441_2
         replace hx441_3 := zH HB hx441_3
         replace p441 := eq_true p441
         replace q441 := eq_true q441
         go_wp2_with (first | ((with_reducible refine gate_dst (N := 8) rfl ?_); refine box_event ?hg (N := 8) ?hd (cs := #[.string (⟨#[]⟩ : ByteArray), .int .i64 0, .int .i64 0, .string (⟨#[]⟩ : ByteArray)]) (t := 52) ?hr ?_; (case hd => rfl); (case hg => rfl); (case hr => first | (go_simp; done) | (go_simp; rfl)); intro gb442 hg w30 hbox hb; replace HO_15 := zR HO_15 hb; replace HO_437002 := zM (Kd.R_below (Kd.R_elderB (mR HO_437002.out) gb442 (Nat.le_of_eq hg.symm)) hb); have BK442 := zM (hbox); have GW442 := zM ((by rw [hg]; exact (below_size mZ) : w.heap.size ≤ gb442)); replace HB := zM (below_step mZ hb); have GE442 := GW442; have NB434_442 := zL BK434 hg; have NB442_434 := zG BK434 hg; replace BK434 := zK BK434 hb; have NB435_442 := zL BK435 hg; have NB442_435 := zG BK435 hg; replace BK435 := zK BK435 hb; have NB436_442 := zL BK436 hg; have NB442_436 := zG BK436 hg; replace BK436 := zK BK436 hb; clear hb hbox hg; have hnb31 := NB442_434.out; have hnc31 := NB434_442.out; have hnb32 := NB442_435.out; have hnc32 := NB435_442.out; have hnb33 := NB442_436.out; have hnc33 := NB436_442.out; obtain ⟨hcz34_0, hcz34_1, hcz34_2, hcz34_3, hfz34_0, hfz34_1, hfz34_2, hfz34_3⟩ := cells_4 BK442.out))
         go_roundg k1
         case measure => have := HK1.out; omega
         case rel => exact ⟨(wrap64 (x17_1 + 1)), (x437002_1), (u437002), ya, H', ⟨by have := HK1.out; omega⟩, ⟨by (with_reducible repeat (first | apply Kd.R_alloc | apply Kd.R_drewN | apply Kd.R_drew)); exact Kd.R_mono (zgR (Kd.R_types HO_15.out BK442.out (by decide))) (fun _ hk => trivial)⟩, ⟨by (with_reducible repeat (first | apply Kd.R_alloc | apply Kd.R_drewN | apply Kd.R_drew)); exact Kd.R_mono (zgR (Kd.R_mono HO_437002.out (fun k_ hk => (⟨hk, hk.2⟩ : _ ∧ k_ ≠ gb442)))) (fun _ hk => trivial)⟩, ⟨by (with_reducible repeat (first | refine blk_drewN ?_ _ | refine blk_drew ?_ | refine blk_alloc ?_ _)); refine blk_far ?_ NB434_442.out _; refine blk_far ?_ NB434_442.out _; refine blk_far ?_ NB434_442.out _; refine blk_far ?_ NB434_442.out _; (with_reducible repeat (first | refine blk_drewN ?_ _ | refine blk_drew ?_ | refine blk_alloc ?_ _)); exact BK434.out⟩, ⟨by (with_reducible repeat (first | refine blk_drewN ?_ _ | refine blk_drew ?_ | refine blk_alloc ?_ _)); refine blk_far ?_ NB435_442.out _; refine blk_far ?_ NB435_442.out _; refine blk_far ?_ NB435_442.out _; refine blk_far ?_ NB435_442.out _; (with_reducible repeat (first | refine blk_drewN ?_ _ | refine blk_drew ?_ | refine blk_alloc ?_ _)); exact BK435.out⟩, ⟨by (with_reducible repeat (first | refine blk_drewN ?_ _ | refine blk_drew ?_ | refine blk_alloc ?_ _)); refine blk_far ?_ NB436_442.out _; refine blk_far ?_ NB436_442.out _; refine blk_far ?_ NB436_442.out _; refine blk_far ?_ NB436_442.out _; (with_reducible repeat (first | refine blk_drewN ?_ _ | refine blk_drew ?_ | refine blk_alloc ?_ _)); exact BK436.out⟩, ⟨mZ⟩⟩
        ·rw [if_neg c26] at H
         have c26b0 : (((rd_T52 l0_2 x17_1).f1) == 0) = false := beq_eq_false_iff_ne.mpr c26
         have c26b1 : (((rd_T52 l0_2 x17_1).f1) != 0) = true := bne_iff_ne.mpr c26
         by_cases c35 : x17_1 < 2
         ·rw [if_pos c35] at H
          have c35b0 : decide (x17_1 < 2) = true := decide_eq_true c35
          clear c35
          replace H := Option.bind_eq_some_iff.mp H
          obtain ⟨⟨t443, t444, t445, t446⟩, A360, H⟩ := H
          replace H : (if x437002_1.length < 2932031007402 then (columbariumkeep_Tame.l0 k1 y437 (y437.length : Int) (wrap64 (x17_1 + 1)) a0_0 a0_1 l0_2 (Int.tmod a0_0 100) a1 (x437002_1 ++ [(⟨t443, t444, t445, t446⟩ : S52)])) else (none)) = some (r1, r2, r3) := H
          have A36 := zM A360
          clear A360
          by_cases c37 : x437002_1.length < 2932031007402
          ·rw [if_pos c37] at H
           have LMc37 := zM c37
           clear c37
           obtain ⟨y447, hy447⟩ : ∃ y_ : List (S52), y_ = (x437002_1 ++ [(⟨t443, t444, t445, t446⟩ : S52)]) := ⟨_, rfl⟩
           replace H : (columbariumkeep_Tame.l0 k1 y437 (y437.length : Int) (wrap64 (x17_1 + 1)) a0_0 a0_1 l0_2 (Int.tmod a0_0 100) a1 y447) = some (r1, r2, r3) := by first | (rw [hy447]; with_reducible exact H) | (have H2_ := (Option.bind_some _ _).symm.trans H; rw [hy447]; with_reducible exact H2_) | (have H2_ := (Option.bind_some _ _).symm.trans H; with_reducible exact H2_) | with_reducible exact H | (rw [hy447]; exact H) | exact H
           have Ny447 := zM hy447
           clear hy447
           have H' := Aside0.mk H
           clear H
           have p440 : 0 ≤ (x17_1 : Int) := zA
           have q440 : x17_1 < (y437.length : Int) := zA
           obtain ⟨ad440, e440, hx440_0⟩ := Kd.at_string (Kd.R_reads' HO_15.out).2.2 x17_1 p440 q440
           cases e440
           replace p440 := eq_true p440
           replace q440 := eq_true q440
           have hnb38 := NB434_435.out
           have hnc38 := NB435_434.out
           have hnb39 := NB434_436.out
           have hnc39 := NB436_434.out
           obtain ⟨hcz40_0, hcz40_1, hcz40_2, hfz40_0, hfz40_1, hfz40_2⟩ := cells_3 BK434.out
           have p441 : 0 ≤ (x17_1 : Int) := zA
           have q441 : x17_1 < (l0_2.length : Int) := zA
           obtain ⟨ad441, e441, hx441_0, hx441_1, hx441_2, hx441_3⟩ := at_T52 HR0_2.out x17_1 p441 q441
           cases e441
           replace hx441_0 := zH HB hx441_0
           replace hx441_1 := zH HB hx441_1
           replace hx441_2 := zH HB hx441_2
           replace hx441_3 := zH HB hx441_3
           replace p441 := eq_true p441
           replace q441 := eq_true q441
           try go_wp2_with (first | ((with_reducible refine gate_dst (N := 8) rfl ?_); refine box_event ?hg (N := 8) ?hd (cs := #[.string (⟨#[]⟩ : ByteArray), .int .i64 0, .int .i64 0, .string (⟨#[]⟩ : ByteArray)]) (t := 52) ?hr ?_; (case hd => rfl); (case hg => rfl); (case hr => first | (go_simp; done) | (go_simp; rfl)); intro gb442 hg w41 hbox hb; replace HO_15 := zR HO_15 hb; replace HO_437002 := zM (Kd.R_below (Kd.R_elderB (mR HO_437002.out) gb442 (Nat.le_of_eq hg.symm)) hb); have BK442 := zM (hbox); have GW442 := zM ((by rw [hg]; exact (below_size mZ) : w.heap.size ≤ gb442)); replace HB := zM (below_step mZ hb); have GE442 := GW442; have NB434_442 := zL BK434 hg; have NB442_434 := zG BK434 hg; replace BK434 := zK BK434 hb; have NB435_442 := zL BK435 hg; have NB442_435 := zG BK435 hg; replace BK435 := zK BK435 hb; have NB436_442 := zL BK436 hg; have NB442_436 := zG BK436 hg; replace BK436 := zK BK436 hb; clear hb hbox hg; have hnb42 := NB442_434.out; have hnc42 := NB434_442.out; have hnb43 := NB442_435.out; have hnc43 := NB435_442.out; have hnb44 := NB442_436.out; have hnc44 := NB436_442.out; obtain ⟨hcz45_0, hcz45_1, hcz45_2, hcz45_3, hfz45_0, hfz45_1, hfz45_2, hfz45_3⟩ := cells_4 BK442.out))
           have n0_ : Aside0 (Kd.R Kd.string 9 ((((w41.setCell ⟨gb442, 0, none⟩ (.string ((rd_T52 l0_2 x17_1).f0))).setCell ⟨gb442, 1, none⟩ (.int .i64 ((rd_T52 l0_2 x17_1).f1))).setCell ⟨gb442, 2, none⟩ (.int .i64 ((rd_T52 l0_2 x17_1).f2))).setCell ⟨gb442, 3, none⟩ (.string ((rd_T52 l0_2 x17_1).f3))) w.heap.size (fun _ => True) (.slice (some ad440) y437.length co13) y437) := ⟨by (with_reducible repeat (first | apply Kd.R_alloc | apply Kd.R_drewN | apply Kd.R_drew)); exact Kd.R_mono (zgR (Kd.R_types HO_15.out BK442.out (by decide))) (fun _ hk => trivial)⟩
           have n1_ : Aside0 (Kd.R k52 52 ((((w41.setCell ⟨gb442, 0, none⟩ (.string ((rd_T52 l0_2 x17_1).f0))).setCell ⟨gb442, 1, none⟩ (.int .i64 ((rd_T52 l0_2 x17_1).f1))).setCell ⟨gb442, 2, none⟩ (.int .i64 ((rd_T52 l0_2 x17_1).f2))).setCell ⟨gb442, 3, none⟩ (.string ((rd_T52 l0_2 x17_1).f3))) w.heap.size (fun k_ => k_ ≠ gb442) u437002 x437002_1) := ⟨by (with_reducible repeat (first | apply Kd.R_alloc | apply Kd.R_drewN | apply Kd.R_drew)); exact Kd.R_mono (zgR (Kd.R_mono HO_437002.out (fun k_ hk => (⟨hk, hk.2⟩ : _ ∧ k_ ≠ gb442)))) (fun _ hk => hk.1.2)⟩
           have n2_ : Aside0 (((((w41.setCell ⟨gb442, 0, none⟩ (.string ((rd_T52 l0_2 x17_1).f0))).setCell ⟨gb442, 1, none⟩ (.int .i64 ((rd_T52 l0_2 x17_1).f1))).setCell ⟨gb442, 2, none⟩ (.int .i64 ((rd_T52 l0_2 x17_1).f2))).setCell ⟨gb442, 3, none⟩ (.string ((rd_T52 l0_2 x17_1).f3))).heap[gb434]? = some (.cells #[.int .i64 a0_0, .int .i64 a0_1, .slice (some ad441) l0_2.length c0_2] 36 (0, 0))) := ⟨by (with_reducible repeat (first | refine blk_drewN ?_ _ | refine blk_drew ?_ | refine blk_alloc ?_ _)); refine blk_far ?_ NB434_442.out _; refine blk_far ?_ NB434_442.out _; refine blk_far ?_ NB434_442.out _; refine blk_far ?_ NB434_442.out _; (with_reducible repeat (first | refine blk_drewN ?_ _ | refine blk_drew ?_ | refine blk_alloc ?_ _)); exact BK434.out⟩
           have n3_ : Aside0 (((((w41.setCell ⟨gb442, 0, none⟩ (.string ((rd_T52 l0_2 x17_1).f0))).setCell ⟨gb442, 1, none⟩ (.int .i64 ((rd_T52 l0_2 x17_1).f1))).setCell ⟨gb442, 2, none⟩ (.int .i64 ((rd_T52 l0_2 x17_1).f2))).setCell ⟨gb442, 3, none⟩ (.string ((rd_T52 l0_2 x17_1).f3))).heap[gb435]? = some (.cells #[.int .i64 0, .int .i64 0, .slice none 0 0] 36 (0, 0))) := ⟨by (with_reducible repeat (first | refine blk_drewN ?_ _ | refine blk_drew ?_ | refine blk_alloc ?_ _)); refine blk_far ?_ NB435_442.out _; refine blk_far ?_ NB435_442.out _; refine blk_far ?_ NB435_442.out _; refine blk_far ?_ NB435_442.out _; (with_reducible repeat (first | refine blk_drewN ?_ _ | refine blk_drew ?_ | refine blk_alloc ?_ _)); exact BK435.out⟩
           have n4_ : Aside0 (((((w41.setCell ⟨gb442, 0, none⟩ (.string ((rd_T52 l0_2 x17_1).f0))).setCell ⟨gb442, 1, none⟩ (.int .i64 ((rd_T52 l0_2 x17_1).f1))).setCell ⟨gb442, 2, none⟩ (.int .i64 ((rd_T52 l0_2 x17_1).f2))).setCell ⟨gb442, 3, none⟩ (.string ((rd_T52 l0_2 x17_1).f3))).heap[gb436]? = some (.cells #[.int .i64 (Int.tmod a0_0 100), .int .i64 a1, u437002] 36 (0, 0))) := ⟨by (with_reducible repeat (first | refine blk_drewN ?_ _ | refine blk_drew ?_ | refine blk_alloc ?_ _)); refine blk_far ?_ NB436_442.out _; refine blk_far ?_ NB436_442.out _; refine blk_far ?_ NB436_442.out _; refine blk_far ?_ NB436_442.out _; (with_reducible repeat (first | refine blk_drewN ?_ _ | refine blk_drew ?_ | refine blk_alloc ?_ _)); exact BK436.out⟩
           have n5_ : Aside0 (((((w41.setCell ⟨gb442, 0, none⟩ (.string ((rd_T52 l0_2 x17_1).f0))).setCell ⟨gb442, 1, none⟩ (.int .i64 ((rd_T52 l0_2 x17_1).f1))).setCell ⟨gb442, 2, none⟩ (.int .i64 ((rd_T52 l0_2 x17_1).f2))).setCell ⟨gb442, 3, none⟩ (.string ((rd_T52 l0_2 x17_1).f3))).heap[gb442]? = some (.cells #[.string ((rd_T52 l0_2 x17_1).f0), .int .i64 ((rd_T52 l0_2 x17_1).f1), .int .i64 ((rd_T52 l0_2 x17_1).f2), .string ((rd_T52 l0_2 x17_1).f3)] 52 (0, 0))) := ⟨by (with_reducible repeat (first | refine blk_drewN ?_ _ | refine blk_drew ?_ | refine blk_alloc ?_ _)); apply puts_4; (with_reducible repeat (first | refine blk_drewN ?_ _ | refine blk_drew ?_ | refine blk_alloc ?_ _)); exact BK442.out⟩
           have n6_ : Aside0 (Below w.heap.size w ((((w41.setCell ⟨gb442, 0, none⟩ (.string ((rd_T52 l0_2 x17_1).f0))).setCell ⟨gb442, 1, none⟩ (.int .i64 ((rd_T52 l0_2 x17_1).f1))).setCell ⟨gb442, 2, none⟩ (.int .i64 ((rd_T52 l0_2 x17_1).f2))).setCell ⟨gb442, 3, none⟩ (.string ((rd_T52 l0_2 x17_1).f3)))) := ⟨mZ⟩
           (try clear HO_15)
           (try clear HO_437002)
           (try clear BK434)
           (try clear BK435)
           (try clear BK436)
           (try clear BK442)
           (try clear HB)
           generalize ((((w41.setCell ⟨gb442, 0, none⟩ (.string ((rd_T52 l0_2 x17_1).f0))).setCell ⟨gb442, 1, none⟩ (.int .i64 ((rd_T52 l0_2 x17_1).f1))).setCell ⟨gb442, 2, none⟩ (.int .i64 ((rd_T52 l0_2 x17_1).f2))).setCell ⟨gb442, 3, none⟩ (.string ((rd_T52 l0_2 x17_1).f3))) = w46 at n0_ n1_ n2_ n3_ n4_ n5_ n6_ ⊢
           have HO_15 := n0_
           have HO_437002 := n1_
           have BK434 := n2_
           have BK435 := n3_
           have BK436 := n4_
           have BK442 := n5_
           have HB := n6_
           clear n0_ n1_ n2_ n3_ n4_ n5_ n6_
           replace HO_15 := zM (Kd.R_drew HO_15.out)
           replace HO_437002 := zM (Kd.R_drew HO_437002.out)
           replace BK434 := zM (blk_drew BK434.out)
           replace BK435 := zM (blk_drew BK435.out)
           replace BK436 := zM (blk_drew BK436.out)
           replace BK442 := zM (blk_drew BK442.out)
           replace HB := zM (below_drew1 HB.out)
           refine start_ (n := 11) (S := fun w' => w'.cell? ⟨gb436, 0, none⟩ = some (.int .i64 (Int.tmod a0_0 100)) ∧ w'.cell? ⟨gb436, 1, none⟩ = some (.int .i64 a1) ∧ w'.cell? ⟨gb436, 2, none⟩ = some (u437002) ∧ w'.cell? ⟨gb442, 0, none⟩ = some (.string ((rd_T52 l0_2 x17_1).f0)) ∧ w'.cell? ⟨gb442, 1, none⟩ = some (.int .i64 ((rd_T52 l0_2 x17_1).f1)) ∧ w'.cell? ⟨gb442, 2, none⟩ = some (.int .i64 ((rd_T52 l0_2 x17_1).f2)) ∧ w'.cell? ⟨gb442, 3, none⟩ = some (.string ((rd_T52 l0_2 x17_1).f3))) (ds := [10]) #[false, false, false, false, false, false, false, false, false, false, false] (by kernel_rfl) rfl rfl (zI3 BK436 (zJ4 BK442)) (fun hHeld => ?_); refine with_tabW columbariumkeep_Tame.tab9 columbariumkeep_Tame.bits9 (fun HT_ HW_ => ?_)
           generalize w46.drew = w47 at HO_15 HO_437002 BK434 BK435 BK436 BK442 HB hHeld ⊢
           refine pure_ (i := 0) (N := some 37) (v := ?_) (a' := ?_) #[true, false, false, false, false, false, false, false, false, false, false] rfl rfl (any_of HT_.out (by kernel_rfl)) (fun _ _ _ h => h) (Or.inl ⟨by rfl, ?_⟩) ?_ ?_
           rotate_left
           ·intro w'
            go_simp
            with_reducible rfl
           rotate_left
           ·simp only [Act.put, List.setIfInBounds_toArray, List.set_cons_zero, List.set_cons_succ, i64_w, i32_w]
            rfl
           refine pure_ (i := 2) (N := some 39) (v := ?_) (a' := ?_) #[true, false, true, false, false, false, false, false, false, false, false] rfl rfl (any_of HT_.out (by kernel_rfl)) (fun _ _ _ h => h) (Or.inl ⟨by rfl, ?_⟩) ?_ ?_
           rotate_left
           ·intro w'
            go_simp
            with_reducible rfl
           rotate_left
           ·simp only [Act.put, List.setIfInBounds_toArray, List.set_cons_zero, List.set_cons_succ, i64_w, i32_w]
            rfl
           refine pure_ (i := 3) (N := some 40) (v := ?_) (a' := ?_) #[true, false, true, true, false, false, false, false, false, false, false] rfl rfl (any_of HT_.out (by kernel_rfl)) (fun _ _ _ h => h) (Or.inl ⟨by rfl, ?_⟩) ?_ ?_
           rotate_left
           ·intro w'
            go_simp
            with_reducible rfl
           rotate_left
           ·simp only [Act.put, List.setIfInBounds_toArray, List.set_cons_zero, List.set_cons_succ, i64_w, i32_w]
            rfl
           refine take_ (i := 1) (N := some 38) (v := ?_) (a' := ?_) #[true, true, true, true, false, false, false, false, false, false, false] rfl rfl (take_ofW HT_.out HW_.out (by kernel_rfl)) (fun _ _ _ h => h) (Or.inl ⟨by rfl, ?_⟩) hHeld ?_ ?_
           rotate_left
           ·rintro w' ⟨s0, s1, s2, s3, s4, s5, s6⟩
            go_simp
            with_reducible rfl
           rotate_left
           ·simp only [Act.put, List.setIfInBounds_toArray, List.set_cons_zero, List.set_cons_succ, i64_w, i32_w]
            rfl
           refine take_ (i := 4) (N := some 41) (v := ?_) (a' := ?_) #[true, true, true, true, true, false, false, false, false, false, false] rfl rfl (take_ofW HT_.out HW_.out (by kernel_rfl)) (fun _ _ _ h => h) (Or.inl ⟨by rfl, ?_⟩) hHeld ?_ ?_
           rotate_left
           ·rintro w' ⟨s0, s1, s2, s3, s4, s5, s6⟩
            go_simp
            with_reducible rfl
           rotate_left
           ·simp only [Act.put, List.setIfInBounds_toArray, List.set_cons_zero, List.set_cons_succ, i64_w, i32_w]
            rfl
           refine pure_ (i := 5) (N := some 42) (v := ?_) (a' := ?_) #[true, true, true, true, true, true, false, false, false, false, false] rfl rfl (any_of HT_.out (by kernel_rfl)) (fun _ _ _ h => h) (Or.inl ⟨by rfl, ?_⟩) ?_ ?_
           rotate_left
           ·intro w'
            go_simp
            with_reducible rfl
           rotate_left
           ·simp only [Act.put, List.setIfInBounds_toArray, List.set_cons_zero, List.set_cons_succ, i64_w, i32_w]
            rfl
           refine one_ (i := 6) (N := some 43) #[true, true, true, true, true, true, true, false, false, false, false] rfl rfl (one_of HT_.out (by kernel_rfl)) (by decide) (fun K hK => ?_)
           refine goes_ Try.func23 (by kernel_rfl) rfl #[.string (rdOf ByteArray.empty y437 x17_1), .int .i64 (Int.tmod ((rd_T52 l0_2 x17_1).f2) 10)] (by rfl) rfl rfl yb ?_
           with_reducible refine (columbariumkeep_Num.calls (rdOf ByteArray.empty y437 x17_1) (Int.tmod ((rd_T52 l0_2 x17_1).f2) 10) t443 t444 t445 t446 _ A36.out).mono ?_
           rintro e w48 ⟨rfl, hb⟩
           refine ⟨_, rfl, ?_⟩
           replace HO_15 := zR HO_15 hb
           replace HO_437002 := zR HO_437002 hb
           replace BK434 := zK BK434 hb
           replace BK435 := zK BK435 hb
           replace BK436 := zK BK436 hb
           replace BK442 := zK BK442 hb
           replace HB := zM (below_step mZ hb)
           (try clear hb)
           (try clear hb2)
           (try clear hk)
           (try clear hi)
           refine hK.out _ _ (zI3 BK436 (zJ4 BK442)) (fun hHeld => ?_)
           clear hK K
           refine norm_ (a' := ?_) ?_ ?_
           rotate_left
           ·show Act.put _ (some 43) _ = _
            simp only [Act.put, List.setIfInBounds_toArray, List.set_cons_zero, List.set_cons_succ, i64_w, i32_w]
            rfl
           refine one_ (i := 7) (N := some 44) #[true, true, true, true, true, true, true, true, false, false, false] rfl rfl (one_of HT_.out (by kernel_rfl)) (by decide) (fun K hK => ?_)
           refine value_ (w1 := ?_) (v := ?_) (by rfl) rfl ?_ ?_
           rotate_left 2
           ·go_simp
            constructor
            ·rfl
            ·rfl
           refine hK.out _ _ ⟨(blk_cell (blk_alloc BK436.out _) 0).trans rfl, (blk_cell (blk_alloc BK436.out _) 1).trans rfl, (blk_cell (blk_alloc BK436.out _) 2).trans rfl, (blk_cell (blk_alloc BK442.out _) 0).trans rfl, (blk_cell (blk_alloc BK442.out _) 1).trans rfl, (blk_cell (blk_alloc BK442.out _) 2).trans rfl, (blk_cell (blk_alloc BK442.out _) 3).trans rfl⟩ (fun hHeld => ?_)
           clear hK K
           refine norm_ (a' := ?_) ?_ ?_
           rotate_left
           ·show Act.put _ (some 44) _ = _
            simp only [Act.put, List.setIfInBounds_toArray, List.set_cons_zero, List.set_cons_succ, i64_w, i32_w]
            rfl
           refine one_ (i := 8) (N := some 45) #[true, true, true, true, true, true, true, true, true, false, false] rfl rfl (one_of HT_.out (by kernel_rfl)) (by decide) (fun K hK => ?_)
           refine Kd.R_append_step k52 (w0 := w) w.heap.size (by rfl) (.tmp 38) (.tmp 44) 34 52 (.agg #[(.string ⟨#[]⟩), (.int .i64 0), (.int .i64 0), (.string ⟨#[]⟩)]) 48 rfl Try.underlying34 info52 rfl (by decide) (by omega) u437002 x437002_1 (⟨t443, t444, t445, t446⟩ : S52) [.string t443, .int .i64 t444, .int .i64 t445, .string t446] (fun k_ => k_ ≠ gb442) (fun _ => False) rfl rfl ?aP (fun _ hk => hk.elim) ?aF ?aO ?aB ?aS ?aL ?_
           (case aP => exact k52_mkM _ _ _ (⟨t443, t444, t445, t446⟩ : S52))
           (case aB => exact mZ)
           (case aF => exact (fun k_ hk => Kd.freshB (mK BK442.out) k_ hk))
           (case aO => exact (mR HO_437002.out))
           (case aS => exact (below_size mZ))
           (case aL => have := LMc37.out; omega)
           intro v448 w49 ho hb hg hat
           rw [← Ny447.out] at ho
           replace HO_15 := zM (Kd.R_over' (mR HO_15.out) (Kd.R_typed (mR HO_437002.out)) (by decide) hg)
           replace BK434 := zM (blk_grown (mK BK434.out) hg (Kd.R_ne HO_437002.out BK434.out (by decide)))
           replace BK435 := zM (blk_grown (mK BK435.out) hg (Kd.R_ne HO_437002.out BK435.out (by decide)))
           replace BK436 := zM (blk_grown (mK BK436.out) hg (Kd.R_ne HO_437002.out BK436.out (by decide)))
           replace BK442 := zM (blk_grown (mK BK442.out) hg (Kd.R_away HO_437002.out (fun _ hk => hk)))
           replace HB := zM (hb)
           have HO449 := zM (ho)
           clear HO_437002
           clear ho hb hg hat
           obtain ⟨Ao50, co50, eo50⟩ := Kd.R_slice HO449.out
           (first | subst eo50 | (injection eo50 with f1_ f2_ f3_; have f4_ := f1_.symm; have f5_ := f3_.symm; clear f1_ f2_ f3_; subst f4_; subst f5_))
           refine hK.out _ _ (zI3 BK436 (zJ4 BK442)) (fun hHeld => ?_)
           clear hK K
           refine norm_ (a' := ?_) ?_ ?_
           rotate_left
           ·show Act.put _ (some 45) _ = _
            simp only [Act.put, List.setIfInBounds_toArray, List.set_cons_zero, List.set_cons_succ, i64_w, i32_w]
            rfl
           refine pure_ (i := 9) (N := some 46) (v := ?_) (a' := ?_) #[true, true, true, true, true, true, true, true, true, true, false] rfl rfl (any_of HT_.out (by kernel_rfl)) (fun _ _ _ h => h) (Or.inl ⟨by rfl, ?_⟩) ?_ ?_
           rotate_left
           ·intro w'
            go_simp
            with_reducible rfl
           rotate_left
           ·simp only [Act.put, List.setIfInBounds_toArray, List.set_cons_zero, List.set_cons_succ, i64_w, i32_w]
            rfl
           refine last_ (i := 10) (N := none) #[true, true, true, true, true, true, true, true, true, true, true] rfl rfl (one_of HT_.out (by kernel_rfl)) (by decide) (fun K hK => ?_)
           have hs51 : w49.cell? ⟨gb436, 2, none⟩ = some (u437002) := (blk_cell BK436.out 2).trans rfl
           have hfs51 := blk_frozen BK436.out 2
           have hns51_0 := NB434_436.out
           have hns51_1 := NB435_436.out
           have hns51_3 := NB442_436.out
           have hms51_0 := NB436_434.out
           have hms51_1 := NB436_435.out
           have hms51_3 := NB436_442.out
           refine skip_ (w1 := ?_) (by rfl) rfl ?_ ?_
           rotate_left
           ·go_simp
            rfl
           refine hK.out _ _ ?_
           clear hK K
           refine done_ (done_of HT_.out (by kernel_rfl)) ?_
           try go_wp2
           go_roundg k1
           case measure => have := HK1.out; omega
           case rel => exact ⟨(wrap64 (x17_1 + 1)), (y447), (.slice Ao50 y447.length co50), ya, H', ⟨by have := HK1.out; omega⟩, ⟨by (with_reducible repeat (first | apply Kd.R_alloc | apply Kd.R_drewN | apply Kd.R_drew)); exact Kd.R_mono (zgR (Kd.R_types HO_15.out BK436.out (by decide))) (fun _ hk => trivial)⟩, ⟨by (with_reducible repeat (first | apply Kd.R_alloc | apply Kd.R_drewN | apply Kd.R_drew)); exact Kd.R_mono (zgR (Kd.R_types HO449.out BK436.out (by decide))) (fun _ hk => trivial)⟩, ⟨by (with_reducible repeat (first | refine blk_drewN ?_ _ | refine blk_drew ?_ | refine blk_alloc ?_ _)); refine blk_far ?_ NB434_436.out _; (with_reducible repeat (first | refine blk_drewN ?_ _ | refine blk_drew ?_ | refine blk_alloc ?_ _)); exact BK434.out⟩, ⟨by (with_reducible repeat (first | refine blk_drewN ?_ _ | refine blk_drew ?_ | refine blk_alloc ?_ _)); refine blk_far ?_ NB435_436.out _; (with_reducible repeat (first | refine blk_drewN ?_ _ | refine blk_drew ?_ | refine blk_alloc ?_ _)); exact BK435.out⟩, ⟨by (with_reducible repeat (first | refine blk_drewN ?_ _ | refine blk_drew ?_ | refine blk_alloc ?_ _)); refine blk_put (cs := #[.int .i64 (Int.tmod a0_0 100), .int .i64 a1, u437002]) ?_ 2 _ rfl; (with_reducible repeat (first | refine blk_drewN ?_ _ | refine blk_drew ?_ | refine blk_alloc ?_ _)); exact BK436.out⟩, ⟨mZ⟩⟩
          ·rw [if_neg c37] at H
           exact absurd H (by simp)
         ·rw [if_neg c35] at H
          have c35b0 : decide (x17_1 < 2) = false := decide_eq_false c35
          clear c35
          by_cases c52 : (((rd_T52 l0_2 x17_1).f3).size : Int) > 3
          ·rw [if_pos c52] at H
           have c52b0 : decide (3 < (((rd_T52 l0_2 x17_1).f3).size : Int)) = true := decide_eq_true c52
           have c52b1 : decide (3 < ((rd_T52 l0_2 x17_1).f3).size) = true := decide_eq_true (by omega)
           clear c52
           by_cases c53 : 0 ≤ 3
           ·rw [if_pos c53] at H
            have c53b0 := eq_true c53
            have c53b1 : decide (0 ≤ 3) = true := decide_eq_true c53
            clear c53
            by_cases c54 : 3 ≤ (((rd_T52 l0_2 x17_1).f3).size : Int)
            ·rw [if_pos c54] at H
             have c54b0 := eq_true c54
             have c54b1 : decide (3 ≤ (((rd_T52 l0_2 x17_1).f3).size : Int)) = true := decide_eq_true c54
             clear c54
             replace H := Option.bind_eq_some_iff.mp H
             obtain ⟨⟨t450, t451, t452, t453⟩, A550, H⟩ := H
             replace H : (if x437002_1.length < 2932031007402 then (columbariumkeep_Tame.l0 k1 y437 (y437.length : Int) (wrap64 (x17_1 + 1)) a0_0 a0_1 l0_2 (Int.tmod a0_0 100) a1 (x437002_1 ++ [(⟨t450, t451, t452, t453⟩ : S52)])) else (none)) = some (r1, r2, r3) := H
             have A55 := zM A550
             clear A550
             by_cases c56 : x437002_1.length < 2932031007402
             ·rw [if_pos c56] at H
              have LMc56 := zM c56
              clear c56
              obtain ⟨y454, hy454⟩ : ∃ y_ : List (S52), y_ = (x437002_1 ++ [(⟨t450, t451, t452, t453⟩ : S52)]) := ⟨_, rfl⟩
              replace H : (columbariumkeep_Tame.l0 k1 y437 (y437.length : Int) (wrap64 (x17_1 + 1)) a0_0 a0_1 l0_2 (Int.tmod a0_0 100) a1 y454) = some (r1, r2, r3) := by first | (rw [hy454]; with_reducible exact H) | (have H2_ := (Option.bind_some _ _).symm.trans H; rw [hy454]; with_reducible exact H2_) | (have H2_ := (Option.bind_some _ _).symm.trans H; with_reducible exact H2_) | with_reducible exact H | (rw [hy454]; exact H) | exact H
              have Ny454 := zM hy454
              clear hy454
              have H' := Aside0.mk H
              clear H
              have p440 : 0 ≤ (x17_1 : Int) := zA
              have q440 : x17_1 < (y437.length : Int) := zA
              obtain ⟨ad440, e440, hx440_0⟩ := Kd.at_string (Kd.R_reads' HO_15.out).2.2 x17_1 p440 q440
              cases e440
              replace p440 := eq_true p440
              replace q440 := eq_true q440
              have hnb57 := NB434_435.out
              have hnc57 := NB435_434.out
              have hnb58 := NB434_436.out
              have hnc58 := NB436_434.out
              obtain ⟨hcz59_0, hcz59_1, hcz59_2, hfz59_0, hfz59_1, hfz59_2⟩ := cells_3 BK434.out
              have p441 : 0 ≤ (x17_1 : Int) := zA
              have q441 : x17_1 < (l0_2.length : Int) := zA
              obtain ⟨ad441, e441, hx441_0, hx441_1, hx441_2, hx441_3⟩ := at_T52 HR0_2.out x17_1 p441 q441
              cases e441
              replace hx441_0 := zH HB hx441_0
              replace hx441_1 := zH HB hx441_1
              replace hx441_2 := zH HB hx441_2
              replace hx441_3 := zH HB hx441_3
              replace p441 := eq_true p441
              replace q441 := eq_true q441
              try go_wp2_with (first | ((with_reducible refine gate_dst (N := 8) rfl ?_); refine box_event ?hg (N := 8) ?hd (cs := #[.string (⟨#[]⟩ : ByteArray), .int .i64 0, .int .i64 0, .string (⟨#[]⟩ : ByteArray)]) (t := 52) ?hr ?_; (case hd => rfl); (case hg => rfl); (case hr => first | (go_simp; done) | (go_simp; rfl)); intro gb442 hg w60 hbox hb; replace HO_15 := zR HO_15 hb; replace HO_437002 := zM (Kd.R_below (Kd.R_elderB (mR HO_437002.out) gb442 (Nat.le_of_eq hg.symm)) hb); have BK442 := zM (hbox); have GW442 := zM ((by rw [hg]; exact (below_size mZ) : w.heap.size ≤ gb442)); replace HB := zM (below_step mZ hb); have GE442 := GW442; have NB434_442 := zL BK434 hg; have NB442_434 := zG BK434 hg; replace BK434 := zK BK434 hb; have NB435_442 := zL BK435 hg; have NB442_435 := zG BK435 hg; replace BK435 := zK BK435 hb; have NB436_442 := zL BK436 hg; have NB442_436 := zG BK436 hg; replace BK436 := zK BK436 hb; clear hb hbox hg; have hnb61 := NB442_434.out; have hnc61 := NB434_442.out; have hnb62 := NB442_435.out; have hnc62 := NB435_442.out; have hnb63 := NB442_436.out; have hnc63 := NB436_442.out; obtain ⟨hcz64_0, hcz64_1, hcz64_2, hcz64_3, hfz64_0, hfz64_1, hfz64_2, hfz64_3⟩ := cells_4 BK442.out))
              have n0_ : Aside0 (Kd.R Kd.string 9 ((((w60.setCell ⟨gb442, 0, none⟩ (.string ((rd_T52 l0_2 x17_1).f0))).setCell ⟨gb442, 1, none⟩ (.int .i64 ((rd_T52 l0_2 x17_1).f1))).setCell ⟨gb442, 2, none⟩ (.int .i64 ((rd_T52 l0_2 x17_1).f2))).setCell ⟨gb442, 3, none⟩ (.string ((rd_T52 l0_2 x17_1).f3))) w.heap.size (fun _ => True) (.slice (some ad440) y437.length co13) y437) := ⟨by (with_reducible repeat (first | apply Kd.R_alloc | apply Kd.R_drewN | apply Kd.R_drew)); exact Kd.R_mono (zgR (Kd.R_types HO_15.out BK442.out (by decide))) (fun _ hk => trivial)⟩
              have n1_ : Aside0 (Kd.R k52 52 ((((w60.setCell ⟨gb442, 0, none⟩ (.string ((rd_T52 l0_2 x17_1).f0))).setCell ⟨gb442, 1, none⟩ (.int .i64 ((rd_T52 l0_2 x17_1).f1))).setCell ⟨gb442, 2, none⟩ (.int .i64 ((rd_T52 l0_2 x17_1).f2))).setCell ⟨gb442, 3, none⟩ (.string ((rd_T52 l0_2 x17_1).f3))) w.heap.size (fun k_ => k_ ≠ gb442) u437002 x437002_1) := ⟨by (with_reducible repeat (first | apply Kd.R_alloc | apply Kd.R_drewN | apply Kd.R_drew)); exact Kd.R_mono (zgR (Kd.R_mono HO_437002.out (fun k_ hk => (⟨hk, hk.2⟩ : _ ∧ k_ ≠ gb442)))) (fun _ hk => hk.1.2)⟩
              have n2_ : Aside0 (((((w60.setCell ⟨gb442, 0, none⟩ (.string ((rd_T52 l0_2 x17_1).f0))).setCell ⟨gb442, 1, none⟩ (.int .i64 ((rd_T52 l0_2 x17_1).f1))).setCell ⟨gb442, 2, none⟩ (.int .i64 ((rd_T52 l0_2 x17_1).f2))).setCell ⟨gb442, 3, none⟩ (.string ((rd_T52 l0_2 x17_1).f3))).heap[gb434]? = some (.cells #[.int .i64 a0_0, .int .i64 a0_1, .slice (some ad441) l0_2.length c0_2] 36 (0, 0))) := ⟨by (with_reducible repeat (first | refine blk_drewN ?_ _ | refine blk_drew ?_ | refine blk_alloc ?_ _)); refine blk_far ?_ NB434_442.out _; refine blk_far ?_ NB434_442.out _; refine blk_far ?_ NB434_442.out _; refine blk_far ?_ NB434_442.out _; (with_reducible repeat (first | refine blk_drewN ?_ _ | refine blk_drew ?_ | refine blk_alloc ?_ _)); exact BK434.out⟩
              have n3_ : Aside0 (((((w60.setCell ⟨gb442, 0, none⟩ (.string ((rd_T52 l0_2 x17_1).f0))).setCell ⟨gb442, 1, none⟩ (.int .i64 ((rd_T52 l0_2 x17_1).f1))).setCell ⟨gb442, 2, none⟩ (.int .i64 ((rd_T52 l0_2 x17_1).f2))).setCell ⟨gb442, 3, none⟩ (.string ((rd_T52 l0_2 x17_1).f3))).heap[gb435]? = some (.cells #[.int .i64 0, .int .i64 0, .slice none 0 0] 36 (0, 0))) := ⟨by (with_reducible repeat (first | refine blk_drewN ?_ _ | refine blk_drew ?_ | refine blk_alloc ?_ _)); refine blk_far ?_ NB435_442.out _; refine blk_far ?_ NB435_442.out _; refine blk_far ?_ NB435_442.out _; refine blk_far ?_ NB435_442.out _; (with_reducible repeat (first | refine blk_drewN ?_ _ | refine blk_drew ?_ | refine blk_alloc ?_ _)); exact BK435.out⟩
              have n4_ : Aside0 (((((w60.setCell ⟨gb442, 0, none⟩ (.string ((rd_T52 l0_2 x17_1).f0))).setCell ⟨gb442, 1, none⟩ (.int .i64 ((rd_T52 l0_2 x17_1).f1))).setCell ⟨gb442, 2, none⟩ (.int .i64 ((rd_T52 l0_2 x17_1).f2))).setCell ⟨gb442, 3, none⟩ (.string ((rd_T52 l0_2 x17_1).f3))).heap[gb436]? = some (.cells #[.int .i64 (Int.tmod a0_0 100), .int .i64 a1, u437002] 36 (0, 0))) := ⟨by (with_reducible repeat (first | refine blk_drewN ?_ _ | refine blk_drew ?_ | refine blk_alloc ?_ _)); refine blk_far ?_ NB436_442.out _; refine blk_far ?_ NB436_442.out _; refine blk_far ?_ NB436_442.out _; refine blk_far ?_ NB436_442.out _; (with_reducible repeat (first | refine blk_drewN ?_ _ | refine blk_drew ?_ | refine blk_alloc ?_ _)); exact BK436.out⟩
              have n5_ : Aside0 (((((w60.setCell ⟨gb442, 0, none⟩ (.string ((rd_T52 l0_2 x17_1).f0))).setCell ⟨gb442, 1, none⟩ (.int .i64 ((rd_T52 l0_2 x17_1).f1))).setCell ⟨gb442, 2, none⟩ (.int .i64 ((rd_T52 l0_2 x17_1).f2))).setCell ⟨gb442, 3, none⟩ (.string ((rd_T52 l0_2 x17_1).f3))).heap[gb442]? = some (.cells #[.string ((rd_T52 l0_2 x17_1).f0), .int .i64 ((rd_T52 l0_2 x17_1).f1), .int .i64 ((rd_T52 l0_2 x17_1).f2), .string ((rd_T52 l0_2 x17_1).f3)] 52 (0, 0))) := ⟨by (with_reducible repeat (first | refine blk_drewN ?_ _ | refine blk_drew ?_ | refine blk_alloc ?_ _)); apply puts_4; (with_reducible repeat (first | refine blk_drewN ?_ _ | refine blk_drew ?_ | refine blk_alloc ?_ _)); exact BK442.out⟩
              have n6_ : Aside0 (Below w.heap.size w ((((w60.setCell ⟨gb442, 0, none⟩ (.string ((rd_T52 l0_2 x17_1).f0))).setCell ⟨gb442, 1, none⟩ (.int .i64 ((rd_T52 l0_2 x17_1).f1))).setCell ⟨gb442, 2, none⟩ (.int .i64 ((rd_T52 l0_2 x17_1).f2))).setCell ⟨gb442, 3, none⟩ (.string ((rd_T52 l0_2 x17_1).f3)))) := ⟨mZ⟩
              (try clear HO_15)
              (try clear HO_437002)
              (try clear BK434)
              (try clear BK435)
              (try clear BK436)
              (try clear BK442)
              (try clear HB)
              generalize ((((w60.setCell ⟨gb442, 0, none⟩ (.string ((rd_T52 l0_2 x17_1).f0))).setCell ⟨gb442, 1, none⟩ (.int .i64 ((rd_T52 l0_2 x17_1).f1))).setCell ⟨gb442, 2, none⟩ (.int .i64 ((rd_T52 l0_2 x17_1).f2))).setCell ⟨gb442, 3, none⟩ (.string ((rd_T52 l0_2 x17_1).f3))) = w65 at n0_ n1_ n2_ n3_ n4_ n5_ n6_ ⊢
              have HO_15 := n0_
              have HO_437002 := n1_
              have BK434 := n2_
              have BK435 := n3_
              have BK436 := n4_
              have BK442 := n5_
              have HB := n6_
              clear n0_ n1_ n2_ n3_ n4_ n5_ n6_
              replace HO_15 := zM (Kd.R_drew HO_15.out)
              replace HO_437002 := zM (Kd.R_drew HO_437002.out)
              replace BK434 := zM (blk_drew BK434.out)
              replace BK435 := zM (blk_drew BK435.out)
              replace BK436 := zM (blk_drew BK436.out)
              replace BK442 := zM (blk_drew BK442.out)
              replace HB := zM (below_drew1 HB.out)
              refine start_ (n := 9) (S := fun w' => w'.cell? ⟨gb436, 0, none⟩ = some (.int .i64 (Int.tmod a0_0 100)) ∧ w'.cell? ⟨gb436, 1, none⟩ = some (.int .i64 a1) ∧ w'.cell? ⟨gb436, 2, none⟩ = some (u437002)) (ds := [8]) #[false, false, false, false, false, false, false, false, false] (by kernel_rfl) rfl rfl (zJ3 BK436) (fun hHeld => ?_); refine with_tabW columbariumkeep_Tame.tab13 columbariumkeep_Tame.bits13 (fun HT_ HW_ => ?_)
              generalize w65.drew = w66 at HO_15 HO_437002 BK434 BK435 BK436 BK442 HB hHeld ⊢
              refine pure_ (i := 0) (N := some 54) (v := ?_) (a' := ?_) #[true, false, false, false, false, false, false, false, false] rfl rfl (any_of HT_.out (by kernel_rfl)) (fun _ _ _ h => h) (Or.inl ⟨by rfl, ?_⟩) ?_ ?_
              rotate_left
              ·intro w'
               go_simp
               with_reducible rfl
              rotate_left
              ·simp only [Act.put, List.setIfInBounds_toArray, List.set_cons_zero, List.set_cons_succ, i64_w, i32_w]
               rfl
              refine pure_ (i := 2) (N := some 56) (v := ?_) (a' := ?_) #[true, false, true, false, false, false, false, false, false] rfl rfl (any_of HT_.out (by kernel_rfl)) (fun _ _ _ h => h) (Or.inl ⟨by rfl, ?_⟩) ?_ ?_
              rotate_left
              ·intro w'
               go_simp
               with_reducible rfl
              rotate_left
              ·simp only [Act.put, List.setIfInBounds_toArray, List.set_cons_zero, List.set_cons_succ, i64_w, i32_w]
               rfl
              refine pure_ (i := 3) (N := some 57) (v := ?_) (a' := ?_) #[true, false, true, true, false, false, false, false, false] rfl rfl (any_of HT_.out (by kernel_rfl)) (fun _ _ _ h => h) (Or.inl ⟨by rfl, ?_⟩) ?_ ?_
              rotate_left
              ·intro w'
               go_simp
               with_reducible rfl
              rotate_left
              ·simp only [Act.put, List.setIfInBounds_toArray, List.set_cons_zero, List.set_cons_succ, i64_w, i32_w]
               rfl
              refine take_ (i := 1) (N := some 55) (v := ?_) (a' := ?_) #[true, true, true, true, false, false, false, false, false] rfl rfl (take_ofW HT_.out HW_.out (by kernel_rfl)) (fun _ _ _ h => h) (Or.inl ⟨by rfl, ?_⟩) hHeld ?_ ?_
              rotate_left
              ·rintro w' ⟨s0, s1, s2⟩
               go_simp
               with_reducible rfl
              rotate_left
              ·simp only [Act.put, List.setIfInBounds_toArray, List.set_cons_zero, List.set_cons_succ, i64_w, i32_w]
               rfl
              refine one_ (i := 4) (N := some 58) #[true, true, true, true, true, false, false, false, false] rfl rfl (one_of HT_.out (by kernel_rfl)) (by decide) (fun K hK => ?_)
              refine goes_ Try.func24 (by kernel_rfl) rfl #[.string (rdOf ByteArray.empty y437 x17_1), .string (((rd_T52 l0_2 x17_1).f3).extract 0 3)] (by rfl) rfl rfl yb ?_
              with_reducible refine (columbariumkeep_Str.calls (rdOf ByteArray.empty y437 x17_1) (((rd_T52 l0_2 x17_1).f3).extract 0 3) t450 t451 t452 t453 _ A55.out).mono ?_
              rintro e w67 ⟨rfl, hb⟩
              refine ⟨_, rfl, ?_⟩
              replace HO_15 := zR HO_15 hb
              replace HO_437002 := zR HO_437002 hb
              replace BK434 := zK BK434 hb
              replace BK435 := zK BK435 hb
              replace BK436 := zK BK436 hb
              replace BK442 := zK BK442 hb
              replace HB := zM (below_step mZ hb)
              (try clear hb)
              (try clear hb2)
              (try clear hk)
              (try clear hi)
              refine hK.out _ _ (zJ3 BK436) (fun hHeld => ?_)
              clear hK K
              refine norm_ (a' := ?_) ?_ ?_
              rotate_left
              ·show Act.put _ (some 58) _ = _
               simp only [Act.put, List.setIfInBounds_toArray, List.set_cons_zero, List.set_cons_succ, i64_w, i32_w]
               rfl
              refine one_ (i := 5) (N := some 59) #[true, true, true, true, true, true, false, false, false] rfl rfl (one_of HT_.out (by kernel_rfl)) (by decide) (fun K hK => ?_)
              refine value_ (w1 := ?_) (v := ?_) (by rfl) rfl ?_ ?_
              rotate_left 2
              ·go_simp
               constructor
               ·rfl
               ·rfl
              refine hK.out _ _ ⟨(blk_cell (blk_alloc BK436.out _) 0).trans rfl, (blk_cell (blk_alloc BK436.out _) 1).trans rfl, (blk_cell (blk_alloc BK436.out _) 2).trans rfl⟩ (fun hHeld => ?_)
              clear hK K
              refine norm_ (a' := ?_) ?_ ?_
              rotate_left
              ·show Act.put _ (some 59) _ = _
               simp only [Act.put, List.setIfInBounds_toArray, List.set_cons_zero, List.set_cons_succ, i64_w, i32_w]
               rfl
              refine one_ (i := 6) (N := some 60) #[true, true, true, true, true, true, true, false, false] rfl rfl (one_of HT_.out (by kernel_rfl)) (by decide) (fun K hK => ?_)
              refine Kd.R_append_step k52 (w0 := w) w.heap.size (by rfl) (.tmp 55) (.tmp 59) 34 52 (.agg #[(.string ⟨#[]⟩), (.int .i64 0), (.int .i64 0), (.string ⟨#[]⟩)]) 48 rfl Try.underlying34 info52 rfl (by decide) (by omega) u437002 x437002_1 (⟨t450, t451, t452, t453⟩ : S52) [.string t450, .int .i64 t451, .int .i64 t452, .string t453] (fun k_ => k_ ≠ gb442) (fun _ => False) rfl rfl ?aP (fun _ hk => hk.elim) ?aF ?aO ?aB ?aS ?aL ?_
              (case aP => exact k52_mkM _ _ _ (⟨t450, t451, t452, t453⟩ : S52))
              (case aB => exact mZ)
              (case aF => exact (fun k_ hk => Kd.freshB (mK BK442.out) k_ hk))
              (case aO => exact (mR HO_437002.out))
              (case aS => exact (below_size mZ))
              (case aL => have := LMc56.out; omega)
              intro v455 w68 ho hb hg hat
              rw [← Ny454.out] at ho
              replace HO_15 := zM (Kd.R_over' (mR HO_15.out) (Kd.R_typed (mR HO_437002.out)) (by decide) hg)
              replace BK434 := zM (blk_grown (mK BK434.out) hg (Kd.R_ne HO_437002.out BK434.out (by decide)))
              replace BK435 := zM (blk_grown (mK BK435.out) hg (Kd.R_ne HO_437002.out BK435.out (by decide)))
              replace BK436 := zM (blk_grown (mK BK436.out) hg (Kd.R_ne HO_437002.out BK436.out (by decide)))
              replace BK442 := zM (blk_grown (mK BK442.out) hg (Kd.R_away HO_437002.out (fun _ hk => hk)))
              replace HB := zM (hb)
              have HO456 := zM (ho)
              clear HO_437002
              clear ho hb hg hat
              obtain ⟨Ao69, co69, eo69⟩ := Kd.R_slice HO456.out
              (first | subst eo69 | (injection eo69 with f1_ f2_ f3_; have f4_ := f1_.symm; have f5_ := f3_.symm; clear f1_ f2_ f3_; subst f4_; subst f5_))
              refine hK.out _ _ (zJ3 BK436) (fun hHeld => ?_)
              clear hK K
              refine norm_ (a' := ?_) ?_ ?_
              rotate_left
              ·show Act.put _ (some 60) _ = _
               simp only [Act.put, List.setIfInBounds_toArray, List.set_cons_zero, List.set_cons_succ, i64_w, i32_w]
               rfl
              refine pure_ (i := 7) (N := some 61) (v := ?_) (a' := ?_) #[true, true, true, true, true, true, true, true, false] rfl rfl (any_of HT_.out (by kernel_rfl)) (fun _ _ _ h => h) (Or.inl ⟨by rfl, ?_⟩) ?_ ?_
              rotate_left
              ·intro w'
               go_simp
               with_reducible rfl
              rotate_left
              ·simp only [Act.put, List.setIfInBounds_toArray, List.set_cons_zero, List.set_cons_succ, i64_w, i32_w]
               rfl
              refine last_ (i := 8) (N := none) #[true, true, true, true, true, true, true, true, true] rfl rfl (one_of HT_.out (by kernel_rfl)) (by decide) (fun K hK => ?_)
              have hs70 : w68.cell? ⟨gb436, 2, none⟩ = some (u437002) := (blk_cell BK436.out 2).trans rfl
              have hfs70 := blk_frozen BK436.out 2
              have hns70_0 := NB434_436.out
              have hns70_1 := NB435_436.out
              have hns70_3 := NB442_436.out
              have hms70_0 := NB436_434.out
              have hms70_1 := NB436_435.out
              have hms70_3 := NB436_442.out
              refine skip_ (w1 := ?_) (by rfl) rfl ?_ ?_
              rotate_left
              ·go_simp
               rfl
              refine hK.out _ _ ?_
              clear hK K
              refine done_ (done_of HT_.out (by kernel_rfl)) ?_
              try go_wp2
              go_roundg k1
              case measure => have := HK1.out; omega
              case rel => exact ⟨(wrap64 (x17_1 + 1)), (y454), (.slice Ao69 y454.length co69), ya, H', ⟨by have := HK1.out; omega⟩, ⟨by (with_reducible repeat (first | apply Kd.R_alloc | apply Kd.R_drewN | apply Kd.R_drew)); exact Kd.R_mono (zgR (Kd.R_types HO_15.out BK436.out (by decide))) (fun _ hk => trivial)⟩, ⟨by (with_reducible repeat (first | apply Kd.R_alloc | apply Kd.R_drewN | apply Kd.R_drew)); exact Kd.R_mono (zgR (Kd.R_types HO456.out BK436.out (by decide))) (fun _ hk => trivial)⟩, ⟨by (with_reducible repeat (first | refine blk_drewN ?_ _ | refine blk_drew ?_ | refine blk_alloc ?_ _)); refine blk_far ?_ NB434_436.out _; (with_reducible repeat (first | refine blk_drewN ?_ _ | refine blk_drew ?_ | refine blk_alloc ?_ _)); exact BK434.out⟩, ⟨by (with_reducible repeat (first | refine blk_drewN ?_ _ | refine blk_drew ?_ | refine blk_alloc ?_ _)); refine blk_far ?_ NB435_436.out _; (with_reducible repeat (first | refine blk_drewN ?_ _ | refine blk_drew ?_ | refine blk_alloc ?_ _)); exact BK435.out⟩, ⟨by (with_reducible repeat (first | refine blk_drewN ?_ _ | refine blk_drew ?_ | refine blk_alloc ?_ _)); refine blk_put (cs := #[.int .i64 (Int.tmod a0_0 100), .int .i64 a1, u437002]) ?_ 2 _ rfl; (with_reducible repeat (first | refine blk_drewN ?_ _ | refine blk_drew ?_ | refine blk_alloc ?_ _)); exact BK436.out⟩, ⟨mZ⟩⟩
             ·rw [if_neg c56] at H
              exact absurd H (by simp)
            ·rw [if_neg c54] at H
             exact absurd H (by simp)
           ·rw [if_neg c53] at H
            exact absurd H (by simp)
          ·rw [if_neg c52] at H
           have c52b0 : decide (3 < (((rd_T52 l0_2 x17_1).f3).size : Int)) = false := decide_eq_false c52
           have c52b1 : decide (3 < ((rd_T52 l0_2 x17_1).f3).size) = false := decide_eq_false (by omega)
           clear c52
           replace H := Option.bind_eq_some_iff.mp H
           obtain ⟨⟨t457, t458, t459, t460⟩, A710, H⟩ := H
           replace H : (if x437002_1.length < 2932031007402 then (columbariumkeep_Tame.l0 k1 y437 (y437.length : Int) (wrap64 (x17_1 + 1)) a0_0 a0_1 l0_2 (Int.tmod a0_0 100) a1 (x437002_1 ++ [(⟨t457, t458, t459, t460⟩ : S52)])) else (none)) = some (r1, r2, r3) := H
           have A71 := zM A710
           clear A710
           by_cases c72 : x437002_1.length < 2932031007402
           ·rw [if_pos c72] at H
            have LMc72 := zM c72
            clear c72
            obtain ⟨y461, hy461⟩ : ∃ y_ : List (S52), y_ = (x437002_1 ++ [(⟨t457, t458, t459, t460⟩ : S52)]) := ⟨_, rfl⟩
            replace H : (columbariumkeep_Tame.l0 k1 y437 (y437.length : Int) (wrap64 (x17_1 + 1)) a0_0 a0_1 l0_2 (Int.tmod a0_0 100) a1 y461) = some (r1, r2, r3) := by first | (rw [hy461]; with_reducible exact H) | (have H2_ := (Option.bind_some _ _).symm.trans H; rw [hy461]; with_reducible exact H2_) | (have H2_ := (Option.bind_some _ _).symm.trans H; with_reducible exact H2_) | with_reducible exact H | (rw [hy461]; exact H) | exact H
            have Ny461 := zM hy461
            clear hy461
            have H' := Aside0.mk H
            clear H
            have p440 : 0 ≤ (x17_1 : Int) := zA
            have q440 : x17_1 < (y437.length : Int) := zA
            obtain ⟨ad440, e440, hx440_0⟩ := Kd.at_string (Kd.R_reads' HO_15.out).2.2 x17_1 p440 q440
            cases e440
            replace p440 := eq_true p440
            replace q440 := eq_true q440
            have hnb73 := NB434_435.out
            have hnc73 := NB435_434.out
            have hnb74 := NB434_436.out
            have hnc74 := NB436_434.out
            obtain ⟨hcz75_0, hcz75_1, hcz75_2, hfz75_0, hfz75_1, hfz75_2⟩ := cells_3 BK434.out
            have p441 : 0 ≤ (x17_1 : Int) := zA
            have q441 : x17_1 < (l0_2.length : Int) := zA
            obtain ⟨ad441, e441, hx441_0, hx441_1, hx441_2, hx441_3⟩ := at_T52 HR0_2.out x17_1 p441 q441
            cases e441
            replace hx441_0 := zH HB hx441_0
            replace hx441_1 := zH HB hx441_1
            replace hx441_2 := zH HB hx441_2
            replace hx441_3 := zH HB hx441_3
            replace p441 := eq_true p441
            replace q441 := eq_true q441
            try go_wp2_with (first | ((with_reducible refine gate_dst (N := 8) rfl ?_); refine box_event ?hg (N := 8) ?hd (cs := #[.string (⟨#[]⟩ : ByteArray), .int .i64 0, .int .i64 0, .string (⟨#[]⟩ : ByteArray)]) (t := 52) ?hr ?_; (case hd => rfl); (case hg => rfl); (case hr => first | (go_simp; done) | (go_simp; rfl)); intro gb442 hg w76 hbox hb; replace HO_15 := zR HO_15 hb; replace HO_437002 := zM (Kd.R_below (Kd.R_elderB (mR HO_437002.out) gb442 (Nat.le_of_eq hg.symm)) hb); have BK442 := zM (hbox); have GW442 := zM ((by rw [hg]; exact (below_size mZ) : w.heap.size ≤ gb442)); replace HB := zM (below_step mZ hb); have GE442 := GW442; have NB434_442 := zL BK434 hg; have NB442_434 := zG BK434 hg; replace BK434 := zK BK434 hb; have NB435_442 := zL BK435 hg; have NB442_435 := zG BK435 hg; replace BK435 := zK BK435 hb; have NB436_442 := zL BK436 hg; have NB442_436 := zG BK436 hg; replace BK436 := zK BK436 hb; clear hb hbox hg; have hnb77 := NB442_434.out; have hnc77 := NB434_442.out; have hnb78 := NB442_435.out; have hnc78 := NB435_442.out; have hnb79 := NB442_436.out; have hnc79 := NB436_442.out; obtain ⟨hcz80_0, hcz80_1, hcz80_2, hcz80_3, hfz80_0, hfz80_1, hfz80_2, hfz80_3⟩ := cells_4 BK442.out))
            have n0_ : Aside0 (Kd.R Kd.string 9 ((((w76.setCell ⟨gb442, 0, none⟩ (.string ((rd_T52 l0_2 x17_1).f0))).setCell ⟨gb442, 1, none⟩ (.int .i64 ((rd_T52 l0_2 x17_1).f1))).setCell ⟨gb442, 2, none⟩ (.int .i64 ((rd_T52 l0_2 x17_1).f2))).setCell ⟨gb442, 3, none⟩ (.string ((rd_T52 l0_2 x17_1).f3))) w.heap.size (fun _ => True) (.slice (some ad440) y437.length co13) y437) := ⟨by (with_reducible repeat (first | apply Kd.R_alloc | apply Kd.R_drewN | apply Kd.R_drew)); exact Kd.R_mono (zgR (Kd.R_types HO_15.out BK442.out (by decide))) (fun _ hk => trivial)⟩
            have n1_ : Aside0 (Kd.R k52 52 ((((w76.setCell ⟨gb442, 0, none⟩ (.string ((rd_T52 l0_2 x17_1).f0))).setCell ⟨gb442, 1, none⟩ (.int .i64 ((rd_T52 l0_2 x17_1).f1))).setCell ⟨gb442, 2, none⟩ (.int .i64 ((rd_T52 l0_2 x17_1).f2))).setCell ⟨gb442, 3, none⟩ (.string ((rd_T52 l0_2 x17_1).f3))) w.heap.size (fun k_ => k_ ≠ gb442) u437002 x437002_1) := ⟨by (with_reducible repeat (first | apply Kd.R_alloc | apply Kd.R_drewN | apply Kd.R_drew)); exact Kd.R_mono (zgR (Kd.R_mono HO_437002.out (fun k_ hk => (⟨hk, hk.2⟩ : _ ∧ k_ ≠ gb442)))) (fun _ hk => hk.1.2)⟩
            have n2_ : Aside0 (((((w76.setCell ⟨gb442, 0, none⟩ (.string ((rd_T52 l0_2 x17_1).f0))).setCell ⟨gb442, 1, none⟩ (.int .i64 ((rd_T52 l0_2 x17_1).f1))).setCell ⟨gb442, 2, none⟩ (.int .i64 ((rd_T52 l0_2 x17_1).f2))).setCell ⟨gb442, 3, none⟩ (.string ((rd_T52 l0_2 x17_1).f3))).heap[gb434]? = some (.cells #[.int .i64 a0_0, .int .i64 a0_1, .slice (some ad441) l0_2.length c0_2] 36 (0, 0))) := ⟨by (with_reducible repeat (first | refine blk_drewN ?_ _ | refine blk_drew ?_ | refine blk_alloc ?_ _)); refine blk_far ?_ NB434_442.out _; refine blk_far ?_ NB434_442.out _; refine blk_far ?_ NB434_442.out _; refine blk_far ?_ NB434_442.out _; (with_reducible repeat (first | refine blk_drewN ?_ _ | refine blk_drew ?_ | refine blk_alloc ?_ _)); exact BK434.out⟩
            have n3_ : Aside0 (((((w76.setCell ⟨gb442, 0, none⟩ (.string ((rd_T52 l0_2 x17_1).f0))).setCell ⟨gb442, 1, none⟩ (.int .i64 ((rd_T52 l0_2 x17_1).f1))).setCell ⟨gb442, 2, none⟩ (.int .i64 ((rd_T52 l0_2 x17_1).f2))).setCell ⟨gb442, 3, none⟩ (.string ((rd_T52 l0_2 x17_1).f3))).heap[gb435]? = some (.cells #[.int .i64 0, .int .i64 0, .slice none 0 0] 36 (0, 0))) := ⟨by (with_reducible repeat (first | refine blk_drewN ?_ _ | refine blk_drew ?_ | refine blk_alloc ?_ _)); refine blk_far ?_ NB435_442.out _; refine blk_far ?_ NB435_442.out _; refine blk_far ?_ NB435_442.out _; refine blk_far ?_ NB435_442.out _; (with_reducible repeat (first | refine blk_drewN ?_ _ | refine blk_drew ?_ | refine blk_alloc ?_ _)); exact BK435.out⟩
            have n4_ : Aside0 (((((w76.setCell ⟨gb442, 0, none⟩ (.string ((rd_T52 l0_2 x17_1).f0))).setCell ⟨gb442, 1, none⟩ (.int .i64 ((rd_T52 l0_2 x17_1).f1))).setCell ⟨gb442, 2, none⟩ (.int .i64 ((rd_T52 l0_2 x17_1).f2))).setCell ⟨gb442, 3, none⟩ (.string ((rd_T52 l0_2 x17_1).f3))).heap[gb436]? = some (.cells #[.int .i64 (Int.tmod a0_0 100), .int .i64 a1, u437002] 36 (0, 0))) := ⟨by (with_reducible repeat (first | refine blk_drewN ?_ _ | refine blk_drew ?_ | refine blk_alloc ?_ _)); refine blk_far ?_ NB436_442.out _; refine blk_far ?_ NB436_442.out _; refine blk_far ?_ NB436_442.out _; refine blk_far ?_ NB436_442.out _; (with_reducible repeat (first | refine blk_drewN ?_ _ | refine blk_drew ?_ | refine blk_alloc ?_ _)); exact BK436.out⟩
            have n5_ : Aside0 (((((w76.setCell ⟨gb442, 0, none⟩ (.string ((rd_T52 l0_2 x17_1).f0))).setCell ⟨gb442, 1, none⟩ (.int .i64 ((rd_T52 l0_2 x17_1).f1))).setCell ⟨gb442, 2, none⟩ (.int .i64 ((rd_T52 l0_2 x17_1).f2))).setCell ⟨gb442, 3, none⟩ (.string ((rd_T52 l0_2 x17_1).f3))).heap[gb442]? = some (.cells #[.string ((rd_T52 l0_2 x17_1).f0), .int .i64 ((rd_T52 l0_2 x17_1).f1), .int .i64 ((rd_T52 l0_2 x17_1).f2), .string ((rd_T52 l0_2 x17_1).f3)] 52 (0, 0))) := ⟨by (with_reducible repeat (first | refine blk_drewN ?_ _ | refine blk_drew ?_ | refine blk_alloc ?_ _)); apply puts_4; (with_reducible repeat (first | refine blk_drewN ?_ _ | refine blk_drew ?_ | refine blk_alloc ?_ _)); exact BK442.out⟩
            have n6_ : Aside0 (Below w.heap.size w ((((w76.setCell ⟨gb442, 0, none⟩ (.string ((rd_T52 l0_2 x17_1).f0))).setCell ⟨gb442, 1, none⟩ (.int .i64 ((rd_T52 l0_2 x17_1).f1))).setCell ⟨gb442, 2, none⟩ (.int .i64 ((rd_T52 l0_2 x17_1).f2))).setCell ⟨gb442, 3, none⟩ (.string ((rd_T52 l0_2 x17_1).f3)))) := ⟨mZ⟩
            (try clear HO_15)
            (try clear HO_437002)
            (try clear BK434)
            (try clear BK435)
            (try clear BK436)
            (try clear BK442)
            (try clear HB)
            generalize ((((w76.setCell ⟨gb442, 0, none⟩ (.string ((rd_T52 l0_2 x17_1).f0))).setCell ⟨gb442, 1, none⟩ (.int .i64 ((rd_T52 l0_2 x17_1).f1))).setCell ⟨gb442, 2, none⟩ (.int .i64 ((rd_T52 l0_2 x17_1).f2))).setCell ⟨gb442, 3, none⟩ (.string ((rd_T52 l0_2 x17_1).f3))) = w81 at n0_ n1_ n2_ n3_ n4_ n5_ n6_ ⊢
            have HO_15 := n0_
            have HO_437002 := n1_
            have BK434 := n2_
            have BK435 := n3_
            have BK436 := n4_
            have BK442 := n5_
            have HB := n6_
            clear n0_ n1_ n2_ n3_ n4_ n5_ n6_
            replace HO_15 := zM (Kd.R_drew HO_15.out)
            replace HO_437002 := zM (Kd.R_drew HO_437002.out)
            replace BK434 := zM (blk_drew BK434.out)
            replace BK435 := zM (blk_drew BK435.out)
            replace BK436 := zM (blk_drew BK436.out)
            replace BK442 := zM (blk_drew BK442.out)
            replace HB := zM (below_drew1 HB.out)
            refine start_ (n := 9) (S := fun w' => w'.cell? ⟨gb436, 0, none⟩ = some (.int .i64 (Int.tmod a0_0 100)) ∧ w'.cell? ⟨gb436, 1, none⟩ = some (.int .i64 a1) ∧ w'.cell? ⟨gb436, 2, none⟩ = some (u437002)) (ds := [8]) #[false, false, false, false, false, false, false, false, false] (by kernel_rfl) rfl rfl (zJ3 BK436) (fun hHeld => ?_); refine with_tabW columbariumkeep_Tame.tab13 columbariumkeep_Tame.bits13 (fun HT_ HW_ => ?_)
            generalize w81.drew = w82 at HO_15 HO_437002 BK434 BK435 BK436 BK442 HB hHeld ⊢
            refine pure_ (i := 0) (N := some 54) (v := ?_) (a' := ?_) #[true, false, false, false, false, false, false, false, false] rfl rfl (any_of HT_.out (by kernel_rfl)) (fun _ _ _ h => h) (Or.inl ⟨by rfl, ?_⟩) ?_ ?_
            rotate_left
            ·intro w'
             go_simp
             with_reducible rfl
            rotate_left
            ·simp only [Act.put, List.setIfInBounds_toArray, List.set_cons_zero, List.set_cons_succ, i64_w, i32_w]
             rfl
            refine pure_ (i := 2) (N := some 56) (v := ?_) (a' := ?_) #[true, false, true, false, false, false, false, false, false] rfl rfl (any_of HT_.out (by kernel_rfl)) (fun _ _ _ h => h) (Or.inl ⟨by rfl, ?_⟩) ?_ ?_
            rotate_left
            ·intro w'
             go_simp
             with_reducible rfl
            rotate_left
            ·simp only [Act.put, List.setIfInBounds_toArray, List.set_cons_zero, List.set_cons_succ, i64_w, i32_w]
             rfl
            refine pure_ (i := 3) (N := some 57) (v := ?_) (a' := ?_) #[true, false, true, true, false, false, false, false, false] rfl rfl (any_of HT_.out (by kernel_rfl)) (fun _ _ _ h => h) (Or.inl ⟨by rfl, ?_⟩) ?_ ?_
            rotate_left
            ·intro w'
             go_simp
             with_reducible rfl
            rotate_left
            ·simp only [Act.put, List.setIfInBounds_toArray, List.set_cons_zero, List.set_cons_succ, i64_w, i32_w]
             rfl
            refine take_ (i := 1) (N := some 55) (v := ?_) (a' := ?_) #[true, true, true, true, false, false, false, false, false] rfl rfl (take_ofW HT_.out HW_.out (by kernel_rfl)) (fun _ _ _ h => h) (Or.inl ⟨by rfl, ?_⟩) hHeld ?_ ?_
            rotate_left
            ·rintro w' ⟨s0, s1, s2⟩
             go_simp
             with_reducible rfl
            rotate_left
            ·simp only [Act.put, List.setIfInBounds_toArray, List.set_cons_zero, List.set_cons_succ, i64_w, i32_w]
             rfl
            refine one_ (i := 4) (N := some 58) #[true, true, true, true, true, false, false, false, false] rfl rfl (one_of HT_.out (by kernel_rfl)) (by decide) (fun K hK => ?_)
            refine goes_ Try.func24 (by kernel_rfl) rfl #[.string (rdOf ByteArray.empty y437 x17_1), .string ((rd_T52 l0_2 x17_1).f3)] (by rfl) rfl rfl yb ?_
            with_reducible refine (columbariumkeep_Str.calls (rdOf ByteArray.empty y437 x17_1) ((rd_T52 l0_2 x17_1).f3) t457 t458 t459 t460 _ A71.out).mono ?_
            rintro e w83 ⟨rfl, hb⟩
            refine ⟨_, rfl, ?_⟩
            replace HO_15 := zR HO_15 hb
            replace HO_437002 := zR HO_437002 hb
            replace BK434 := zK BK434 hb
            replace BK435 := zK BK435 hb
            replace BK436 := zK BK436 hb
            replace BK442 := zK BK442 hb
            replace HB := zM (below_step mZ hb)
            (try clear hb)
            (try clear hb2)
            (try clear hk)
            (try clear hi)
            refine hK.out _ _ (zJ3 BK436) (fun hHeld => ?_)
            clear hK K
            refine norm_ (a' := ?_) ?_ ?_
            rotate_left
            ·show Act.put _ (some 58) _ = _
             simp only [Act.put, List.setIfInBounds_toArray, List.set_cons_zero, List.set_cons_succ, i64_w, i32_w]
             rfl
            refine one_ (i := 5) (N := some 59) #[true, true, true, true, true, true, false, false, false] rfl rfl (one_of HT_.out (by kernel_rfl)) (by decide) (fun K hK => ?_)
            refine value_ (w1 := ?_) (v := ?_) (by rfl) rfl ?_ ?_
            rotate_left 2
            ·go_simp
             constructor
             ·rfl
             ·rfl
            refine hK.out _ _ ⟨(blk_cell (blk_alloc BK436.out _) 0).trans rfl, (blk_cell (blk_alloc BK436.out _) 1).trans rfl, (blk_cell (blk_alloc BK436.out _) 2).trans rfl⟩ (fun hHeld => ?_)
            clear hK K
            refine norm_ (a' := ?_) ?_ ?_
            rotate_left
            ·show Act.put _ (some 59) _ = _
             simp only [Act.put, List.setIfInBounds_toArray, List.set_cons_zero, List.set_cons_succ, i64_w, i32_w]
             rfl
            refine one_ (i := 6) (N := some 60) #[true, true, true, true, true, true, true, false, false] rfl rfl (one_of HT_.out (by kernel_rfl)) (by decide) (fun K hK => ?_)
            refine Kd.R_append_step k52 (w0 := w) w.heap.size (by rfl) (.tmp 55) (.tmp 59) 34 52 (.agg #[(.string ⟨#[]⟩), (.int .i64 0), (.int .i64 0), (.string ⟨#[]⟩)]) 48 rfl Try.underlying34 info52 rfl (by decide) (by omega) u437002 x437002_1 (⟨t457, t458, t459, t460⟩ : S52) [.string t457, .int .i64 t458, .int .i64 t459, .string t460] (fun k_ => k_ ≠ gb442) (fun _ => False) rfl rfl ?aP (fun _ hk => hk.elim) ?aF ?aO ?aB ?aS ?aL ?_
            (case aP => exact k52_mkM _ _ _ (⟨t457, t458, t459, t460⟩ : S52))
            (case aB => exact mZ)
            (case aF => exact (fun k_ hk => Kd.freshB (mK BK442.out) k_ hk))
            (case aO => exact (mR HO_437002.out))
            (case aS => exact (below_size mZ))
            (case aL => have := LMc72.out; omega)
            intro v462 w84 ho hb hg hat
            rw [← Ny461.out] at ho
            replace HO_15 := zM (Kd.R_over' (mR HO_15.out) (Kd.R_typed (mR HO_437002.out)) (by decide) hg)
            replace BK434 := zM (blk_grown (mK BK434.out) hg (Kd.R_ne HO_437002.out BK434.out (by decide)))
            replace BK435 := zM (blk_grown (mK BK435.out) hg (Kd.R_ne HO_437002.out BK435.out (by decide)))
            replace BK436 := zM (blk_grown (mK BK436.out) hg (Kd.R_ne HO_437002.out BK436.out (by decide)))
            replace BK442 := zM (blk_grown (mK BK442.out) hg (Kd.R_away HO_437002.out (fun _ hk => hk)))
            replace HB := zM (hb)
            have HO463 := zM (ho)
            clear HO_437002
            clear ho hb hg hat
            obtain ⟨Ao85, co85, eo85⟩ := Kd.R_slice HO463.out
            (first | subst eo85 | (injection eo85 with f1_ f2_ f3_; have f4_ := f1_.symm; have f5_ := f3_.symm; clear f1_ f2_ f3_; subst f4_; subst f5_))
            refine hK.out _ _ (zJ3 BK436) (fun hHeld => ?_)
            clear hK K
            refine norm_ (a' := ?_) ?_ ?_
            rotate_left
            ·show Act.put _ (some 60) _ = _
             simp only [Act.put, List.setIfInBounds_toArray, List.set_cons_zero, List.set_cons_succ, i64_w, i32_w]
             rfl
            refine pure_ (i := 7) (N := some 61) (v := ?_) (a' := ?_) #[true, true, true, true, true, true, true, true, false] rfl rfl (any_of HT_.out (by kernel_rfl)) (fun _ _ _ h => h) (Or.inl ⟨by rfl, ?_⟩) ?_ ?_
            rotate_left
            ·intro w'
             go_simp
             with_reducible rfl
            rotate_left
            ·simp only [Act.put, List.setIfInBounds_toArray, List.set_cons_zero, List.set_cons_succ, i64_w, i32_w]
             rfl
            refine last_ (i := 8) (N := none) #[true, true, true, true, true, true, true, true, true] rfl rfl (one_of HT_.out (by kernel_rfl)) (by decide) (fun K hK => ?_)
            have hs86 : w84.cell? ⟨gb436, 2, none⟩ = some (u437002) := (blk_cell BK436.out 2).trans rfl
            have hfs86 := blk_frozen BK436.out 2
            have hns86_0 := NB434_436.out
            have hns86_1 := NB435_436.out
            have hns86_3 := NB442_436.out
            have hms86_0 := NB436_434.out
            have hms86_1 := NB436_435.out
            have hms86_3 := NB436_442.out
            refine skip_ (w1 := ?_) (by rfl) rfl ?_ ?_
            rotate_left
            ·go_simp
             rfl
            refine hK.out _ _ ?_
            clear hK K
            refine done_ (done_of HT_.out (by kernel_rfl)) ?_
            try go_wp2
            go_roundg k1
            case measure => have := HK1.out; omega
            case rel => exact ⟨(wrap64 (x17_1 + 1)), (y461), (.slice Ao85 y461.length co85), ya, H', ⟨by have := HK1.out; omega⟩, ⟨by (with_reducible repeat (first | apply Kd.R_alloc | apply Kd.R_drewN | apply Kd.R_drew)); exact Kd.R_mono (zgR (Kd.R_types HO_15.out BK436.out (by decide))) (fun _ hk => trivial)⟩, ⟨by (with_reducible repeat (first | apply Kd.R_alloc | apply Kd.R_drewN | apply Kd.R_drew)); exact Kd.R_mono (zgR (Kd.R_types HO463.out BK436.out (by decide))) (fun _ hk => trivial)⟩, ⟨by (with_reducible repeat (first | refine blk_drewN ?_ _ | refine blk_drew ?_ | refine blk_alloc ?_ _)); refine blk_far ?_ NB434_436.out _; (with_reducible repeat (first | refine blk_drewN ?_ _ | refine blk_drew ?_ | refine blk_alloc ?_ _)); exact BK434.out⟩, ⟨by (with_reducible repeat (first | refine blk_drewN ?_ _ | refine blk_drew ?_ | refine blk_alloc ?_ _)); refine blk_far ?_ NB435_436.out _; (with_reducible repeat (first | refine blk_drewN ?_ _ | refine blk_drew ?_ | refine blk_alloc ?_ _)); exact BK435.out⟩, ⟨by (with_reducible repeat (first | refine blk_drewN ?_ _ | refine blk_drew ?_ | refine blk_alloc ?_ _)); refine blk_put (cs := #[.int .i64 (Int.tmod a0_0 100), .int .i64 a1, u437002]) ?_ 2 _ rfl; (with_reducible repeat (first | refine blk_drewN ?_ _ | refine blk_drew ?_ | refine blk_alloc ?_ _)); exact BK436.out⟩, ⟨mZ⟩⟩
           ·rw [if_neg c72] at H
            exact absurd H (by simp)
       ·rw [if_neg c25] at H
        exact absurd H (by simp)
     ·rw [if_neg c16] at H
      exact absurd H (by simp)
    ·rw [if_neg c15] at H
     exact absurd H (by simp)
   ·rw [if_neg c14] at H
    have c14b0 : decide (x17_1 < (y437.length : Int)) = false := decide_eq_false c14
    clear c14
    simp only [Option.some.injEq, Prod.mk.injEq] at H
    obtain ⟨rfl, rfl, rfl⟩ := H
    have hnb87 := NB436_434.out
    have hnc87 := NB434_436.out
    have hnb88 := NB436_435.out
    have hnc88 := NB435_436.out
    obtain ⟨hcz89_0, hcz89_1, hcz89_2, hfz89_0, hfz89_1, hfz89_2⟩ := cells_3 BK436.out
    have hnb90 := NB435_434.out
    have hnc90 := NB434_435.out
    obtain ⟨hcz91_0, hcz91_1, hcz91_2, hfz91_0, hfz91_1, hfz91_2⟩ := cells_3 BK435.out
    obtain ⟨Ao92, co92, eo92⟩ := Kd.R_slice HO_437002.out
    subst eo92
    go_wp2
    refine bodyPost_ret (results_cell_row rfl _ _ gb435 36 #[.int .i64 (Int.tmod a0_0 100), .int .i64 a1, .slice Ao92 x437002_1.length co92] (0, 0) _ rfl (by (with_reducible repeat (first | refine blk_drewN ?_ _ | refine blk_drew ?_ | refine blk_alloc ?_ _)); apply puts_3; (with_reducible repeat (first | refine blk_drewN ?_ _ | refine blk_drew ?_ | refine blk_alloc ?_ _)); exact BK435.out) Try.underlying36 rfl (by kernel_rfl)) rfl ?_
    exact ⟨_, by first | rfl | (simp [errW_none, errW_some] <;> rfl) | (simp [*, errW_none, errW_some] <;> rfl), by (with_reducible repeat (first | apply Kd.R_alloc | apply Kd.R_drewN | apply Kd.R_drew)); exact Kd.R_mono (zgR (Kd.R_types HO_437002.out BK435.out (by decide))) (fun _ hk => trivial), mZ⟩

end Go.Proofs.Ytalpcnomfebdiaa.QPredNormal
