-- Written by a program of this session (wip/myprint.py): the machine's side of a law
import Derived.Test.YtalpcnomfebdiaaQPredRulesx0
import Derived.Test.YtalpcnomfebdiaaQPredRulesx11
import Derived.Test.YtalpcnomfebdiaaQPredRulesx12
namespace Go.Proofs.Ytalpcnomfebdiaa.QPredRules
open Go.RowKit Go.Proofs.YtalpcnomfebdiaaW.PrintWords Go.Proofs.YtalpcnomfebdiaaW.PrintLast Go.Proofs.YtalpcnomfebdiaaW.PrintMore
attribute [local go_sem] max2_int min2_int max_two min_two max_three min_three max_four min_four   -- for this text's walks alone
set_option linter.unusedVariables false
set_option linter.unusedSimpArgs false

/-! ### columbariumkeep_Tame: function 14 -/
def columbariumkeep_Tame.l0 : Nat → List ByteArray → Int → Int → Int → Int → List (S52) → Int → Int → List (S52) → Option (Int × Int × (List (S52)))
 | 0, _, _, _, _, _, _, _, _, _ => none
 | k + 1, x15, x16, x17, x408000, x408001, x408002, x410000, x410001, x410002 => if x17 < x16 then (if 0 ≤ x17 then (if x17 < (x15.length : Int) then (if x17 ≥ (x408002.length : Int) then (some (x410000, x410001, x410002)) else (if x17 < (x408002.length : Int) then (if ((rd_T52 x408002 x17).f1) = 0 then (columbariumkeep_Tame.l0 k x15 x16 (wrap64 (x17 + 1)) x408000 x408001 x408002 x410000 x410001 x410002) else (if x17 < 2 then ((columbariumkeep_Num.f (rdOf ByteArray.empty x15 x17) (Int.tmod ((rd_T52 x408002 x17).f2) 10)).bind fun bt416 => (if x410002.length < 2932031007402 then (columbariumkeep_Tame.l0 k x15 x16 (wrap64 (x17 + 1)) x408000 x408001 x408002 x410000 x410001 (x410002 ++ [(⟨bt416.1, bt416.2.1, bt416.2.2.1, bt416.2.2.2⟩ : S52)])) else (none))) else (if (((rd_T52 x408002 x17).f3).size : Int) > 3 then (if 0 ≤ 3 then (if 3 ≤ (((rd_T52 x408002 x17).f3).size : Int) then ((columbariumkeep_Str.f (rdOf ByteArray.empty x15 x17) (((rd_T52 x408002 x17).f3).extract 0 3)).bind fun bt423 => (if x410002.length < 2932031007402 then (columbariumkeep_Tame.l0 k x15 x16 (wrap64 (x17 + 1)) x408000 x408001 x408002 x410000 x410001 (x410002 ++ [(⟨bt423.1, bt423.2.1, bt423.2.2.1, bt423.2.2.2⟩ : S52)])) else (none))) else (none)) else (none)) else ((columbariumkeep_Str.f (rdOf ByteArray.empty x15 x17) ((rd_T52 x408002 x17).f3)).bind fun bt430 => (if x410002.length < 2932031007402 then (columbariumkeep_Tame.l0 k x15 x16 (wrap64 (x17 + 1)) x408000 x408001 x408002 x410000 x410001 (x410002 ++ [(⟨bt430.1, bt430.2.1, bt430.2.2.1, bt430.2.2.2⟩ : S52)])) else (none)))))) else (none))) else (none)) else (none)) else (some (x410000, x410001, x410002))
def columbariumkeep_Tame.f (k : Nat) (a0_0 : Int) (a0_1 : Int) (l0_2 : List (S52)) (a1 : Int) : Option (Int × Int × (List (S52))) := (some (([(⟨#[97]⟩ : ByteArray), (⟨#[98]⟩ : ByteArray), (⟨#[115]⟩ : ByteArray), (⟨#[116]⟩ : ByteArray)] : List ByteArray) : List ByteArray)).bind fun y410 => (columbariumkeep_Tame.l0 k y410 (y410.length : Int) 0 a0_0 a0_1 l0_2 (Int.tmod a0_0 100) a1 ([] : List (S52)))
theorem columbariumkeep_Tame.mono_l : ∀ k, (∀ y0 y1 y2 y3 y4 y5 y6 y7 y8, LeO (columbariumkeep_Tame.l0 k y0 y1 y2 y3 y4 y5 y6 y7 y8) (columbariumkeep_Tame.l0 (k + 1) y0 y1 y2 y3 y4 y5 y6 y7 y8))
 | 0 => fun _ _ _ _ _ _ _ _ _ r h => by simp [columbariumkeep_Tame.l0] at h
 | k + 1 => by
  have ih0 := columbariumkeep_Tame.mono_l k
  ·intro y0 y1 y2 y3 y4 y5 y6 y7 y8
   unfold columbariumkeep_Tame.l0
   repeat' first
   | (with_reducible exact ih0 _ _ _ _ _ _ _ _ _)
   | (with_reducible exact LeO.refl _)
   | (with_reducible exact LeO.none _)
   | (with_reducible refine LeO.ite ?_ ?_)
   | (with_reducible refine LeO.bind ?_ (fun _ => ?_))
   | exact ih0 _ _ _ _ _ _ _ _ _
   | exact LeO.none _
   | refine LeO.ite ?_ ?_
   | refine LeO.bind ?_ (fun _ => ?_)
theorem columbariumkeep_Tame.mono : ∀ a0 a1 a2 a3 k, LeO (columbariumkeep_Tame.f k a0 a1 a2 a3) (columbariumkeep_Tame.f (k + 1) a0 a1 a2 a3) := by
 intro a0 a1 a2 a3 k
 have ih0 := columbariumkeep_Tame.mono_l k
 unfold columbariumkeep_Tame.f
 repeat' first
   | (with_reducible exact ih0 _ _ _ _ _ _ _ _ _)
   | (with_reducible exact LeO.refl _)
   | (with_reducible exact LeO.none _)
   | (with_reducible refine LeO.ite ?_ ?_)
   | (with_reducible refine LeO.bind ?_ (fun _ => ?_))
   | exact ih0 _ _ _ _ _ _ _ _ _
   | exact LeO.none _
   | refine LeO.ite ?_ ?_
   | refine LeO.bind ?_ (fun _ => ?_)
def columbariumkeep_Tame.T9 : Bool × List (List Nat × List Nat) := (true, [([], []), ([0], [0]), ([], []), ([], []), ([3], [3]), ([4], [4]), ([2, 5], [2, 5]), ([6], [6]), ([1, 7, 6], [1, 7]), ([0, 1, 2, 3, 4, 5, 6, 7, 8], []), ([9, 8, 8, 0, 1, 2, 3, 4, 5, 6, 7, 8], [8, 9])])
def columbariumkeep_Tame.B9 : List Nat := [0, 1, 0, 0, 8, 24, 60, 124, 255, 511, 1023]
theorem columbariumkeep_Tame.tab9 : rtab .any (opsOf Try.f14 9) = columbariumkeep_Tame.T9 := by kernel_rfl
theorem columbariumkeep_Tame.bits9 : waitsOk columbariumkeep_Tame.T9.2 columbariumkeep_Tame.B9 = true := by kernel_rfl
def columbariumkeep_Tame.T13 : Bool × List (List Nat × List Nat) := (true, [([], []), ([0], [0]), ([], []), ([], []), ([2, 3], [2, 3]), ([4], [4]), ([1, 5, 4], [1, 5]), ([0, 1, 2, 3, 4, 5, 6], []), ([7, 6, 6, 0, 1, 2, 3, 4, 5, 6], [6, 7])])
def columbariumkeep_Tame.B13 : List Nat := [0, 1, 0, 0, 12, 28, 63, 127, 255]
theorem columbariumkeep_Tame.tab13 : rtab .any (opsOf Try.f14 13) = columbariumkeep_Tame.T13 := by kernel_rfl
theorem columbariumkeep_Tame.bits13 : waitsOk columbariumkeep_Tame.T13.2 columbariumkeep_Tame.B13 = true := by kernel_rfl
set_option maxHeartbeats 8000000 in
set_option maxRecDepth 100000 in
theorem columbariumkeep_Tame.calls (k : Nat) (a0_0 : Int) (a0_1 : Int) (A0_2 : Option Addr) (c0_2 : Nat) (l0_2 : List (S52)) (a1 : Int) (r1 : Int) (r2 : Int) (r3 : List (S52)) (w : World) (hr0_2 : Kd.C k52 w A0_2 l0_2.length l0_2) (hc0_2 : l0_2.length ≤ c0_2) (h : columbariumkeep_Tame.f k a0_0 a0_1 l0_2 a1 = some (r1, r2, r3)) :
  Calls Try.prog 14 #[.agg #[.int .i64 a0_0, .int .i64 a0_1, .slice A0_2 l0_2.length c0_2], .int .i64 a1] w fun e w' => ∃ v2_ : Value, e = .returned (.agg #[.int .i64 r1, .int .i64 r2, v2_]) ∧ Kd.R k52 52 w' w.heap.size (fun _ => True) v2_ r3 ∧ Below w.heap.size w w' := by
 have hu36 := Try.underlying36
 have hu52 := Try.underlying52
 have HR0_2 := zM hr0_2
 have HC0_2 := zM hc0_2
 clear hr0_2 hc0_2
 have HB := zM (Below.refl w.heap.size w)
 have H : ((some (([(⟨#[97]⟩ : ByteArray), (⟨#[98]⟩ : ByteArray), (⟨#[115]⟩ : ByteArray), (⟨#[116]⟩ : ByteArray)] : List ByteArray) : List ByteArray)).bind fun y410 => (columbariumkeep_Tame.l0 k y410 (y410.length : Int) 0 a0_0 a0_1 l0_2 (Int.tmod a0_0 100) a1 ([] : List (S52)))) = some (r1, r2, r3) := h
 clear h
 obtain ⟨y410, hy410⟩ : ∃ y_ : List ByteArray, y_ = (([(⟨#[97]⟩ : ByteArray), (⟨#[98]⟩ : ByteArray), (⟨#[115]⟩ : ByteArray), (⟨#[116]⟩ : ByteArray)] : List ByteArray)) := ⟨_, rfl⟩
 replace H : (columbariumkeep_Tame.l0 k y410 (y410.length : Int) 0 a0_0 a0_1 l0_2 (Int.tmod a0_0 100) a1 ([] : List (S52))) = some (r1, r2, r3) := by first | (rw [hy410]; with_reducible exact H) | (have H2_ := (Option.bind_some _ _).symm.trans H; rw [hy410]; with_reducible exact H2_) | (have H2_ := (Option.bind_some _ _).symm.trans H; with_reducible exact H2_) | with_reducible exact H | (rw [hy410]; exact H) | exact H
 have Ny410 := zM hy410
 clear hy410
 have H' := Aside0.mk H
 clear H
 go_enter Try.func14, Try.ntmps14
 go_wp2_with (first | ((with_reducible refine gate_dst (N := 2) rfl ?_); refine box_event ?hg (N := 2) ?hd (cs := #[.int .i64 a0_0, .int .i64 a0_1, .slice A0_2 l0_2.length c0_2]) (t := 36) ?hr ?_; (case hd => rfl); (case hg => rfl); (case hr => first | (go_simp; done) | (go_simp; rfl)); intro gb407 hg w3 hbox hb; have BK407 := zM (hbox); have GW407 := zM ((by rw [hg]; exact (below_size (mB HB.out)) : w.heap.size ≤ gb407)); replace HB := zM (below_step (mB HB.out) hb); have GE407 := GW407; clear hb hbox hg) | ((with_reducible refine gate_dst (N := 4) rfl ?_); refine box_event ?hg (N := 4) ?hd (cs := #[.int .i64 0, .int .i64 0, .slice none 0 0]) (t := 36) ?hr ?_; (case hd => rfl); (case hg => rfl); (case hr => first | (go_simp; done) | (go_simp; rfl)); intro gb408 hg w4 hbox hb; have BK408 := zM (hbox); have GW408 := zM ((by rw [hg]; exact (below_size mZ) : w.heap.size ≤ gb408)); replace HB := zM (below_step mZ hb); have GE408 := GW408; have NB407_408 := zL BK407 hg; have NB408_407 := zG BK407 hg; replace BK407 := zK BK407 hb; clear hb hbox hg; have hnb5 := NB407_408.out; have hnc5 := NB408_407.out; obtain ⟨hcz6_0, hcz6_1, hcz6_2, hfz6_0, hfz6_1, hfz6_2⟩ := cells_3 BK407.out) | ((with_reducible refine gate_dst (N := 5) rfl ?_); refine box_event ?hg (N := 5) ?hd (cs := #[.int .i64 0, .int .i64 0, .slice none 0 0]) (t := 36) ?hr ?_; (case hd => rfl); (case hg => rfl); (case hr => first | (go_simp; done) | (go_simp; rfl)); intro gb409 hg w7 hbox hb; have BK409 := zM (hbox); have GW409 := zM ((by rw [hg]; exact (below_size mZ) : w.heap.size ≤ gb409)); replace HB := zM (below_step mZ hb); have GE409 := GW409; have NB407_409 := zL BK407 hg; have NB409_407 := zG BK407 hg; replace BK407 := zK BK407 hb; have NB408_409 := zL BK408 hg; have NB409_408 := zG BK408 hg; replace BK408 := zK BK408 hb; clear hb hbox hg; have hnb8 := NB409_407.out; have hnc8 := NB407_409.out; have hnb9 := NB409_408.out; have hnc9 := NB408_409.out; obtain ⟨hcz10_0, hcz10_1, hcz10_2, hfz10_0, hfz10_1, hfz10_2⟩ := cells_3 BK409.out) | ((with_reducible refine gate_dst (N := 15) rfl ?_); refine Kd.R_lit Kd.string _ 9 ?hg (N := 15) ?hd (xs := ([(⟨#[97]⟩ : ByteArray), (⟨#[98]⟩ : ByteArray), (⟨#[115]⟩ : ByteArray), (⟨#[116]⟩ : ByteArray)] : List ByteArray)) (inner := [.string (⟨#[97]⟩ : ByteArray), .string (⟨#[98]⟩ : ByteArray), .string (⟨#[115]⟩ : ByteArray), .string (⟨#[116]⟩ : ByteArray)]) (ok := fun _ => True) (okp := fun _ => True) ?hr ?hp (fun _ hk => hk) trivial (Below.refl _ _) (Nat.le_refl _) (by simp) ?_; (case hd => rfl); (case hg => rfl); (case hr => first | (go_simp; done) | (go_simp; rfl)); (case hp => exact (Reps.one (show Kd.M Kd.string _ _ _ (⟨#[97]⟩ : ByteArray) [.string (⟨#[97]⟩ : ByteArray)] from rfl) (Reps.one (show Kd.M Kd.string _ _ _ (⟨#[98]⟩ : ByteArray) [.string (⟨#[98]⟩ : ByteArray)] from rfl) (Reps.one (show Kd.M Kd.string _ _ _ (⟨#[115]⟩ : ByteArray) [.string (⟨#[115]⟩ : ByteArray)] from rfl) (Reps.one (show Kd.M Kd.string _ _ _ (⟨#[116]⟩ : ByteArray) [.string (⟨#[116]⟩ : ByteArray)] from rfl) (Reps.none _ _)))))); intro v411 w11 ho12 hb hg_ hnew_; clear hg_ hnew_; (first | rw [← Ny410.out] at ho12 | (simp only [Int.reduceToNat] at ho12; rw [← Ny410.out] at ho12)); have HO412 := zM (Kd.R_lower ho12 (below_size mZ)); replace BK407 := zM (blk_below (zF BK407.out NB407_409.out) hb); replace BK408 := zM (blk_below (zF BK408.out NB408_409.out) hb); replace BK409 := zP3 BK409 hb; replace HB := zM (below_step mZ hb); clear hb ho12; obtain ⟨Ao13, co13, eo13⟩ := Kd.R_slice HO412.out; subst eo13))
 try simp only [Act.put, List.setIfInBounds_toArray, List.set_cons_zero, List.set_cons_succ]
 go_loopg [17] k (fun kq v17 w' => ∃ (x17_1 : Int) (x410002_1 : List (S52)) (u410002 : Value), v17 = .int .i64 x17_1 ∧ Aside0 (columbariumkeep_Tame.l0 kq y410 (y410.length : Int) x17_1 a0_0 a0_1 l0_2 (Int.tmod a0_0 100) a1 x410002_1 = some (r1, r2, r3)) ∧ Aside0 (kq ≤ k) ∧ Aside0 (Kd.R Kd.string 9 w' w.heap.size (fun _ => True) (.slice Ao13 y410.length co13) y410) ∧ Aside0 (Kd.R k52 52 w' w.heap.size (fun _ => True) u410002 x410002_1) ∧ Aside0 (w'.heap[gb407]? = some (.cells #[.int .i64 a0_0, .int .i64 a0_1, (.slice A0_2 l0_2.length c0_2)] 36 (0, 0))) ∧ Aside0 (w'.heap[gb408]? = some (.cells #[.int .i64 0, .int .i64 0, (.slice none 0 0)] 36 (0, 0))) ∧ Aside0 (w'.heap[gb409]? = some (.cells #[.int .i64 (Int.tmod a0_0 100), .int .i64 a1, u410002] 36 (0, 0))) ∧ Aside0 (Below w.heap.size w w'))
 case atStart => exact ⟨(0), (([] : List (S52))), (.slice none 0 0), ya, H', ⟨Nat.le_refl _⟩, ⟨mR HO412.out⟩, ⟨by first | exact Kd.R_nil _ _ _ _ _ | exact Kd.N_nil _ _ _ _ _ | exact Kd.V_nil _ _ _ _ _ | exact Kd.Q_nil _ _ _ _ _ | exact Kd.S_nil _ _ _ _ _⟩, ⟨mK BK407.out⟩, ⟨mK BK408.out⟩, ⟨mK BK409.out⟩, ⟨mZ⟩⟩
 case round =>
  clear H'
  try clear hcz10_0
  try clear hcz10_1
  try clear hcz10_2
  try clear hcz6_0
  try clear hcz6_1
  try clear hcz6_2
  try clear hfz10_0
  try clear hfz10_1
  try clear hfz10_2
  try clear hfz6_0
  try clear hfz6_1
  try clear hfz6_2
  try clear BK407
  try clear BK408
  try clear BK409
  obtain ⟨x17_1, x410002_1, u410002, rfl, HA, HK1, HO_15, HO_410002, BK407, BK408, BK409, HB⟩ := hrel
  cases gk with
  | zero => exact absurd HA.out (by simp [columbariumkeep_Tame.l0])
  | succ k1 =>
   have H := HA.out
   clear HA
   simp only [columbariumkeep_Tame.l0] at H
   by_cases c14 : x17_1 < (y410.length : Int)
   ·rw [if_pos c14] at H
    have c14b0 : decide (x17_1 < (y410.length : Int)) = true := decide_eq_true c14
    clear c14
    by_cases c15 : 0 ≤ x17_1
    ·rw [if_pos c15] at H
     have c15b0 : decide (0 ≤ x17_1) = true := decide_eq_true c15
     clear c15
     by_cases c16 : x17_1 < (y410.length : Int)
     ·rw [if_pos c16] at H
      have c16b0 : decide (x17_1 < (y410.length : Int)) = true := decide_eq_true c16
      clear c16
      by_cases c17 : x17_1 ≥ (l0_2.length : Int)
      ·rw [if_pos c17] at H
       have c17b0 : decide ((l0_2.length : Int) ≤ x17_1) = true := decide_eq_true c17
       clear c17
       simp only [Option.some.injEq, Prod.mk.injEq] at H
       obtain ⟨rfl, rfl, rfl⟩ := H
       have p413 : 0 ≤ (x17_1 : Int) := zA
       have q413 : x17_1 < (y410.length : Int) := zA
       obtain ⟨ad413, e413, hx413_0⟩ := Kd.at_string (Kd.R_reads' HO_15.out).2.2 x17_1 p413 q413
       cases e413
       replace p413 := eq_true p413
       replace q413 := eq_true q413
       have hnb18 := NB407_408.out
       have hnc18 := NB408_407.out
       have hnb19 := NB407_409.out
       have hnc19 := NB409_407.out
       obtain ⟨hcz20_0, hcz20_1, hcz20_2, hfz20_0, hfz20_1, hfz20_2⟩ := cells_3 BK407.out
       have hnb21 := NB409_408.out
       have hnc21 := NB408_409.out
       obtain ⟨hcz22_0, hcz22_1, hcz22_2, hfz22_0, hfz22_1, hfz22_2⟩ := cells_3 BK409.out
       obtain ⟨hcz23_0, hcz23_1, hcz23_2, hfz23_0, hfz23_1, hfz23_2⟩ := cells_3 BK408.out
       obtain ⟨Ao24, co24, eo24⟩ := Kd.R_slice HO_410002.out
       subst eo24
       go_wp2
       refine bodyPost_ret (results_cell_row rfl _ _ gb408 36 #[.int .i64 (Int.tmod a0_0 100), .int .i64 a1, .slice Ao24 x410002_1.length co24] (0, 0) _ rfl (by (with_reducible repeat (first | refine blk_drewN ?_ _ | refine blk_drew ?_ | refine blk_alloc ?_ _)); apply puts_3; (with_reducible repeat (first | refine blk_drewN ?_ _ | refine blk_drew ?_ | refine blk_alloc ?_ _)); exact BK408.out) Try.underlying36 rfl (by kernel_rfl)) rfl ?_
       exact ⟨_, by first | rfl | (simp [errW_none, errW_some] <;> rfl) | (simp [*, errW_none, errW_some] <;> rfl), by (with_reducible repeat (first | apply Kd.R_alloc | apply Kd.R_drewN | apply Kd.R_drew)); exact Kd.R_mono (zgR (Kd.R_types HO_410002.out BK408.out (by decide))) (fun _ hk => trivial), mZ⟩
      rw [if_neg c17] at H
      have c17b0 : decide ((l0_2.length : Int) ≤ x17_1) = false := decide_eq_false c17
      clear c17
      by_cases c25 : x17_1 < (l0_2.length : Int)
      ·rw [if_pos c25] at H
       have c25b0 : decide (x17_1 < (l0_2.length : Int)) = true := decide_eq_true c25
       clear c25
       by_cases c26 : ((rd_T52 l0_2 x17_1).f1) = 0
       ·rw [if_pos c26] at H
        have c26b0 : (((rd_T52 l0_2 x17_1).f1) == 0) = true := beq_iff_eq.mpr c26
        have c26b1 : (((rd_T52 l0_2 x17_1).f1) != 0) = false := bne_eq_false_iff_eq.mpr c26
        clear c26
        have H' := Aside0.mk H
        clear H
        have p413 : 0 ≤ (x17_1 : Int) := zA
        have q413 : x17_1 < (y410.length : Int) := zA
        obtain ⟨ad413, e413, hx413_0⟩ := Kd.at_string (Kd.R_reads' HO_15.out).2.2 x17_1 p413 q413
        cases e413
        replace p413 := eq_true p413
        replace q413 := eq_true q413
        have hnb27 := NB407_408.out
        have hnc27 := NB408_407.out
        have hnb28 := NB407_409.out
        have hnc28 := NB409_407.out
        obtain ⟨hcz29_0, hcz29_1, hcz29_2, hfz29_0, hfz29_1, hfz29_2⟩ := cells_3 BK407.out
        have p414 : 0 ≤ (x17_1 : Int) := zA
        have q414 : x17_1 < (l0_2.length : Int) := zA
        obtain ⟨ad414, e414, hx414_0, hx414_1, hx414_2, hx414_3⟩ := at_T52 HR0_2.out x17_1 p414 q414
        cases e414
        replace hx414_0 := zH HB hx414_0
        replace hx414_1 := zH HB hx414_1
        replace hx414_2 := zH HB hx414_2
        replace hx414_3 := zH HB hx414_3
        replace p414 := eq_true p414
        replace q414 := eq_true q414
        go_wp2_with (first | ((with_reducible refine gate_dst (N := 8) rfl ?_); refine box_event ?hg (N := 8) ?hd (cs := #[.string (⟨#[]⟩ : ByteArray), .int .i64 0, .int .i64 0, .string (⟨#[]⟩ : ByteArray)]) (t := 52) ?hr ?_; (case hd => rfl); (case hg => rfl); (case hr => first | (go_simp; done) | (go_simp; rfl)); intro gb415 hg w30 hbox hb; replace HO_15 := zR HO_15 hb; replace HO_410002 := zM (Kd.R_below (Kd.R_elderB (mR HO_410002.out) gb415 (Nat.le_of_eq hg.symm)) hb); have BK415 := zM (hbox); have GW415 := zM ((by rw [hg]; exact (below_size mZ) : w.heap.size ≤ gb415)); replace HB := zM (below_step mZ hb); have GE415 := GW415; have NB407_415 := zL BK407 hg; have NB415_407 := zG BK407 hg; replace BK407 := zK BK407 hb; have NB408_415 := zL BK408 hg; have NB415_408 := zG BK408 hg; replace BK408 := zK BK408 hb; have NB409_415 := zL BK409 hg; have NB415_409 := zG BK409 hg; replace BK409 := zK BK409 hb; clear hb hbox hg; have hnb31 := NB415_407.out; have hnc31 := NB407_415.out; have hnb32 := NB415_408.out; have hnc32 := NB408_415.out; have hnb33 := NB415_409.out; have hnc33 := NB409_415.out; obtain ⟨hcz34_0, hcz34_1, hcz34_2, hcz34_3, hfz34_0, hfz34_1, hfz34_2, hfz34_3⟩ := cells_4 BK415.out))
        go_roundg k1
        case measure => have := HK1.out; omega
        case rel => exact ⟨(wrap64 (x17_1 + 1)), (x410002_1), (u410002), ya, H', ⟨by have := HK1.out; omega⟩, ⟨by (with_reducible repeat (first | apply Kd.R_alloc | apply Kd.R_drewN | apply Kd.R_drew)); exact Kd.R_mono (zgR (Kd.R_types HO_15.out BK415.out (by decide))) (fun _ hk => trivial)⟩, ⟨by (with_reducible repeat (first | apply Kd.R_alloc | apply Kd.R_drewN | apply Kd.R_drew)); exact Kd.R_mono (zgR (Kd.R_mono HO_410002.out (fun k_ hk => (⟨hk, hk.2⟩ : _ ∧ k_ ≠ gb415)))) (fun _ hk => trivial)⟩, ⟨by (with_reducible repeat (first | refine blk_drewN ?_ _ | refine blk_drew ?_ | refine blk_alloc ?_ _)); refine blk_far ?_ NB407_415.out _; refine blk_far ?_ NB407_415.out _; refine blk_far ?_ NB407_415.out _; refine blk_far ?_ NB407_415.out _; (with_reducible repeat (first | refine blk_drewN ?_ _ | refine blk_drew ?_ | refine blk_alloc ?_ _)); exact BK407.out⟩, ⟨by (with_reducible repeat (first | refine blk_drewN ?_ _ | refine blk_drew ?_ | refine blk_alloc ?_ _)); refine blk_far ?_ NB408_415.out _; refine blk_far ?_ NB408_415.out _; refine blk_far ?_ NB408_415.out _; refine blk_far ?_ NB408_415.out _; (with_reducible repeat (first | refine blk_drewN ?_ _ | refine blk_drew ?_ | refine blk_alloc ?_ _)); exact BK408.out⟩, ⟨by (with_reducible repeat (first | refine blk_drewN ?_ _ | refine blk_drew ?_ | refine blk_alloc ?_ _)); refine blk_far ?_ NB409_415.out _; refine blk_far ?_ NB409_415.out _; refine blk_far ?_ NB409_415.out _; refine blk_far ?_ NB409_415.out _; (with_reducible repeat (first | refine blk_drewN ?_ _ | refine blk_drew ?_ | refine blk_alloc ?_ _)); exact BK409.out⟩, ⟨mZ⟩⟩
       rw [if_neg c26] at H
       have c26b0 : (((rd_T52 l0_2 x17_1).f1) == 0) = false := beq_eq_false_iff_ne.mpr c26
       have c26b1 : (((rd_T52 l0_2 x17_1).f1) != 0) = true := bne_iff_ne.mpr c26
       by_cases c35 : x17_1 < 2
       ·rw [if_pos c35] at H
        have c35b0 : decide (x17_1 < 2) = true := decide_eq_true c35
        clear c35
        replace H := Option.bind_eq_some_iff.mp H
        obtain ⟨⟨t416, t417, t418, t419⟩, A360, H⟩ := H
        try dsimp only at H
        have A36 := zM A360
        clear A360
        by_cases c37 : x410002_1.length < 2932031007402
        ·rw [if_pos c37] at H
         have LMc37 := zM c37
         clear c37
         obtain ⟨y420, hy420⟩ : ∃ y_ : List (S52), y_ = (x410002_1 ++ [(⟨t416, t417, t418, t419⟩ : S52)]) := ⟨_, rfl⟩
         replace H : (columbariumkeep_Tame.l0 k1 y410 (y410.length : Int) (wrap64 (x17_1 + 1)) a0_0 a0_1 l0_2 (Int.tmod a0_0 100) a1 y420) = some (r1, r2, r3) := by first | (rw [hy420]; with_reducible exact H) | (have H2_ := (Option.bind_some _ _).symm.trans H; rw [hy420]; with_reducible exact H2_) | (have H2_ := (Option.bind_some _ _).symm.trans H; with_reducible exact H2_) | with_reducible exact H | (rw [hy420]; exact H) | exact H
         have Ny420 := zM hy420
         clear hy420
         have H' := Aside0.mk H
         clear H
         have p413 : 0 ≤ (x17_1 : Int) := zA
         have q413 : x17_1 < (y410.length : Int) := zA
         obtain ⟨ad413, e413, hx413_0⟩ := Kd.at_string (Kd.R_reads' HO_15.out).2.2 x17_1 p413 q413
         cases e413
         replace p413 := eq_true p413
         replace q413 := eq_true q413
         have hnb38 := NB407_408.out
         have hnc38 := NB408_407.out
         have hnb39 := NB407_409.out
         have hnc39 := NB409_407.out
         obtain ⟨hcz40_0, hcz40_1, hcz40_2, hfz40_0, hfz40_1, hfz40_2⟩ := cells_3 BK407.out
         have p414 : 0 ≤ (x17_1 : Int) := zA
         have q414 : x17_1 < (l0_2.length : Int) := zA
         obtain ⟨ad414, e414, hx414_0, hx414_1, hx414_2, hx414_3⟩ := at_T52 HR0_2.out x17_1 p414 q414
         cases e414
         replace hx414_0 := zH HB hx414_0
         replace hx414_1 := zH HB hx414_1
         replace hx414_2 := zH HB hx414_2
         replace hx414_3 := zH HB hx414_3
         replace p414 := eq_true p414
         replace q414 := eq_true q414
         try go_wp2_with (first | ((with_reducible refine gate_dst (N := 8) rfl ?_); refine box_event ?hg (N := 8) ?hd (cs := #[.string (⟨#[]⟩ : ByteArray), .int .i64 0, .int .i64 0, .string (⟨#[]⟩ : ByteArray)]) (t := 52) ?hr ?_; (case hd => rfl); (case hg => rfl); (case hr => first | (go_simp; done) | (go_simp; rfl)); intro gb415 hg w41 hbox hb; replace HO_15 := zR HO_15 hb; replace HO_410002 := zM (Kd.R_below (Kd.R_elderB (mR HO_410002.out) gb415 (Nat.le_of_eq hg.symm)) hb); have BK415 := zM (hbox); have GW415 := zM ((by rw [hg]; exact (below_size mZ) : w.heap.size ≤ gb415)); replace HB := zM (below_step mZ hb); have GE415 := GW415; have NB407_415 := zL BK407 hg; have NB415_407 := zG BK407 hg; replace BK407 := zK BK407 hb; have NB408_415 := zL BK408 hg; have NB415_408 := zG BK408 hg; replace BK408 := zK BK408 hb; have NB409_415 := zL BK409 hg; have NB415_409 := zG BK409 hg; replace BK409 := zK BK409 hb; clear hb hbox hg; have hnb42 := NB415_407.out; have hnc42 := NB407_415.out; have hnb43 := NB415_408.out; have hnc43 := NB408_415.out; have hnb44 := NB415_409.out; have hnc44 := NB409_415.out; obtain ⟨hcz45_0, hcz45_1, hcz45_2, hcz45_3, hfz45_0, hfz45_1, hfz45_2, hfz45_3⟩ := cells_4 BK415.out))
         generalize hq_ : ((((w41.setCell ⟨gb415, 0, none⟩ (.string ((rd_T52 l0_2 x17_1).f0))).setCell ⟨gb415, 1, none⟩ (.int .i64 ((rd_T52 l0_2 x17_1).f1))).setCell ⟨gb415, 2, none⟩ (.int .i64 ((rd_T52 l0_2 x17_1).f2))).setCell ⟨gb415, 3, none⟩ (.string ((rd_T52 l0_2 x17_1).f3))) = w46
         replace HO_15 : Aside0 (Kd.R Kd.string 9 w46 w.heap.size (fun _ => True) (.slice (some ad413) y410.length co13) y410) := ⟨by subst hq_; (with_reducible repeat (first | apply Kd.R_alloc | apply Kd.R_drewN | apply Kd.R_drew)); exact Kd.R_mono (zgR (Kd.R_types HO_15.out BK415.out (by decide))) (fun _ hk => trivial)⟩
         replace HO_410002 := zqR4 (ok' := fun k_ => k_ ≠ gb415) hq_ HO_410002 (fun _ hk => hk.2) (fun _ hk => hk.1.2)
         replace BK407 := zf4 hq_ BK407 NB407_415
         replace BK408 := zf4 hq_ BK408 NB408_415
         replace BK409 := zf4 hq_ BK409 NB409_415
         replace BK415 := zp4 hq_ BK415
         replace HB : Aside0 (Below w.heap.size w w46) := ⟨by subst hq_; exact mZ⟩
         clear hq_
         replace HO_15 := zM (Kd.R_drew HO_15.out)
         replace HO_410002 := zM (Kd.R_drew HO_410002.out)
         replace BK407 := zM (blk_drew BK407.out)
         replace BK408 := zM (blk_drew BK408.out)
         replace BK409 := zM (blk_drew BK409.out)
         replace BK415 := zM (blk_drew BK415.out)
         replace HB := zM (below_drew1 HB.out)
         refine start_ (n := 11) (S := fun w' => w'.cell? ⟨gb409, 0, none⟩ = some (.int .i64 (Int.tmod a0_0 100)) ∧ w'.cell? ⟨gb409, 1, none⟩ = some (.int .i64 a1) ∧ w'.cell? ⟨gb409, 2, none⟩ = some (u410002) ∧ w'.cell? ⟨gb415, 0, none⟩ = some (.string ((rd_T52 l0_2 x17_1).f0)) ∧ w'.cell? ⟨gb415, 1, none⟩ = some (.int .i64 ((rd_T52 l0_2 x17_1).f1)) ∧ w'.cell? ⟨gb415, 2, none⟩ = some (.int .i64 ((rd_T52 l0_2 x17_1).f2)) ∧ w'.cell? ⟨gb415, 3, none⟩ = some (.string ((rd_T52 l0_2 x17_1).f3))) (ds := [10]) #[false, false, false, false, false, false, false, false, false, false, false] (by kernel_rfl) rfl rfl (zI3 BK409 (zJ4 BK415)) (fun hHeld => ?_); refine with_tabW columbariumkeep_Tame.tab9 columbariumkeep_Tame.bits9 (fun HT_ HW_ => ?_)
         generalize w46.drew = w47 at HO_15 HO_410002 BK407 BK408 BK409 BK415 HB hHeld ⊢
         refine pure_ (i := 0) (N := some 37) (v := ?_) (a' := ?_) #[true, false, false, false, false, false, false, false, false, false, false] rfl rfl (any_of HT_.out (by kernel_rfl)) (fun _ _ _ h => h) (Or.inl ⟨by rfl, ?_⟩) ?_ ?_
         rotate_left
         ·intro w'
          go_simp
          with_reducible rfl
         rotate_left
         ·simp only [Act.put, List.setIfInBounds_toArray, List.set_cons_zero, List.set_cons_succ, i64_w, i32_w]
          rfl
         refine pure_ (i := 2) (N := some 39) (v := ?_) (a' := ?_) #[true, false, true, false, false, false, false, false, false, false, false] rfl rfl (any_of HT_.out (by kernel_rfl)) (fun _ _ _ h => h) (Or.inl ⟨by rfl, ?_⟩) ?_ ?_
         rotate_left
         ·intro w'
          go_simp
          with_reducible rfl
         rotate_left
         ·simp only [Act.put, List.setIfInBounds_toArray, List.set_cons_zero, List.set_cons_succ, i64_w, i32_w]
          rfl
         refine pure_ (i := 3) (N := some 40) (v := ?_) (a' := ?_) #[true, false, true, true, false, false, false, false, false, false, false] rfl rfl (any_of HT_.out (by kernel_rfl)) (fun _ _ _ h => h) (Or.inl ⟨by rfl, ?_⟩) ?_ ?_
         rotate_left
         ·intro w'
          go_simp
          with_reducible rfl
         rotate_left
         ·simp only [Act.put, List.setIfInBounds_toArray, List.set_cons_zero, List.set_cons_succ, i64_w, i32_w]
          rfl
         refine take_ (i := 1) (N := some 38) (v := ?_) (a' := ?_) #[true, true, true, true, false, false, false, false, false, false, false] rfl rfl (take_ofW HT_.out HW_.out (by kernel_rfl)) (fun _ _ _ h => h) (Or.inl ⟨by rfl, ?_⟩) hHeld ?_ ?_
         rotate_left
         ·rintro w' ⟨s0, s1, s2, s3, s4, s5, s6⟩
          go_simp
          with_reducible rfl
         rotate_left
         ·simp only [Act.put, List.setIfInBounds_toArray, List.set_cons_zero, List.set_cons_succ, i64_w, i32_w]
          rfl
         refine take_ (i := 4) (N := some 41) (v := ?_) (a' := ?_) #[true, true, true, true, true, false, false, false, false, false, false] rfl rfl (take_ofW HT_.out HW_.out (by kernel_rfl)) (fun _ _ _ h => h) (Or.inl ⟨by rfl, ?_⟩) hHeld ?_ ?_
         rotate_left
         ·rintro w' ⟨s0, s1, s2, s3, s4, s5, s6⟩
          go_simp
          with_reducible rfl
         rotate_left
         ·simp only [Act.put, List.setIfInBounds_toArray, List.set_cons_zero, List.set_cons_succ, i64_w, i32_w]
          rfl
         refine pure_ (i := 5) (N := some 42) (v := ?_) (a' := ?_) #[true, true, true, true, true, true, false, false, false, false, false] rfl rfl (any_of HT_.out (by kernel_rfl)) (fun _ _ _ h => h) (Or.inl ⟨by rfl, ?_⟩) ?_ ?_
         rotate_left
         ·intro w'
          go_simp
          with_reducible rfl
         rotate_left
         ·simp only [Act.put, List.setIfInBounds_toArray, List.set_cons_zero, List.set_cons_succ, i64_w, i32_w]
          rfl
         refine one_ (i := 6) (N := some 43) #[true, true, true, true, true, true, true, false, false, false, false] rfl rfl (one_of HT_.out (by kernel_rfl)) (by decide) (fun K hK => ?_)
         refine goes_ Try.func23 (by kernel_rfl) rfl #[.string (rdOf ByteArray.empty y410 x17_1), .int .i64 (Int.tmod ((rd_T52 l0_2 x17_1).f2) 10)] (by rfl) rfl rfl yb ?_
         with_reducible refine (columbariumkeep_Num.calls (rdOf ByteArray.empty y410 x17_1) (Int.tmod ((rd_T52 l0_2 x17_1).f2) 10) t416 t417 t418 t419 _ A36.out).mono ?_
         rintro e w48 ⟨rfl, hb⟩
         refine ⟨_, rfl, ?_⟩
         replace HO_15 := zR HO_15 hb
         replace HO_410002 := zR HO_410002 hb
         replace BK407 := zK BK407 hb
         replace BK408 := zK BK408 hb
         replace BK409 := zK BK409 hb
         replace BK415 := zK BK415 hb
         replace HB := zM (below_step mZ hb)
         (try clear hb)
         (try clear hb2)
         (try clear hk)
         (try clear hi)
         refine hK.out _ _ (zI3 BK409 (zJ4 BK415)) (fun hHeld => ?_)
         clear hK K
         refine norm_ (a' := ?_) ?_ ?_
         rotate_left
         ·show Act.put _ (some 43) _ = _
          simp only [Act.put, List.setIfInBounds_toArray, List.set_cons_zero, List.set_cons_succ, i64_w, i32_w]
          rfl
         refine one_ (i := 7) (N := some 44) #[true, true, true, true, true, true, true, true, false, false, false] rfl rfl (one_of HT_.out (by kernel_rfl)) (by decide) (fun K hK => ?_)
         refine value_ (w1 := ?_) (v := ?_) (by rfl) rfl ?_ ?_
         rotate_left 2
         ·go_simp
          constructor
          ·rfl
          rfl
         refine hK.out _ _ ⟨(blk_cell (blk_alloc BK409.out _) 0).trans rfl, (blk_cell (blk_alloc BK409.out _) 1).trans rfl, (blk_cell (blk_alloc BK409.out _) 2).trans rfl, (blk_cell (blk_alloc BK415.out _) 0).trans rfl, (blk_cell (blk_alloc BK415.out _) 1).trans rfl, (blk_cell (blk_alloc BK415.out _) 2).trans rfl, (blk_cell (blk_alloc BK415.out _) 3).trans rfl⟩ (fun hHeld => ?_)
         clear hK K
         refine norm_ (a' := ?_) ?_ ?_
         rotate_left
         ·show Act.put _ (some 44) _ = _
          simp only [Act.put, List.setIfInBounds_toArray, List.set_cons_zero, List.set_cons_succ, i64_w, i32_w]
          rfl
         refine one_ (i := 8) (N := some 45) #[true, true, true, true, true, true, true, true, true, false, false] rfl rfl (one_of HT_.out (by kernel_rfl)) (by decide) (fun K hK => ?_)
         refine Kd.R_append_step k52 (w0 := w) w.heap.size (by rfl) (.tmp 38) (.tmp 44) 34 52 (.agg #[(.string ⟨#[]⟩), (.int .i64 0), (.int .i64 0), (.string ⟨#[]⟩)]) 48 rfl Try.underlying34 info52 rfl (by decide) (by omega) u410002 x410002_1 (⟨t416, t417, t418, t419⟩ : S52) [.string t416, .int .i64 t417, .int .i64 t418, .string t419] (fun k_ => k_ ≠ gb415) (fun _ => False) rfl rfl ?aP (fun _ hk => hk.elim) ?aF ?aO ?aB ?aS ?aL ?_
         (case aP => exact k52_mkM _ _ _ (⟨t416, t417, t418, t419⟩ : S52))
         (case aB => exact mZ)
         (case aF => exact (fun k_ hk => fK BK415 hk))
         (case aO => exact (mR HO_410002.out))
         (case aS => exact (below_size mZ))
         (case aL => have := LMc37.out; omega)
         intro v421 w49 ho hb hg hat
         rw [← Ny420.out] at ho
         replace HO_15 := zM (Kd.R_over' (mR HO_15.out) (Kd.R_typed (mR HO_410002.out)) (by decide) hg)
         replace BK407 := zM (blk_grown (mK BK407.out) hg (Kd.R_ne HO_410002.out BK407.out (by decide)))
         replace BK408 := zM (blk_grown (mK BK408.out) hg (Kd.R_ne HO_410002.out BK408.out (by decide)))
         replace BK409 := zM (blk_grown (mK BK409.out) hg (Kd.R_ne HO_410002.out BK409.out (by decide)))
         replace BK415 := zM (blk_grown (mK BK415.out) hg (Kd.R_away HO_410002.out (fun _ hk => hk)))
         replace HB := zM (hb)
         have HO422 := zM (ho)
         clear HO_410002
         clear ho hb hg hat
         obtain ⟨Ao50, co50, eo50⟩ := Kd.R_slice HO422.out
         (first | subst eo50 | (injection eo50 with f1_ f2_ f3_; have f4_ := f1_.symm; have f5_ := f3_.symm; clear f1_ f2_ f3_; subst f4_; subst f5_))
         refine hK.out _ _ (zI3 BK409 (zJ4 BK415)) (fun hHeld => ?_)
         clear hK K
         refine norm_ (a' := ?_) ?_ ?_
         rotate_left
         ·show Act.put _ (some 45) _ = _
          simp only [Act.put, List.setIfInBounds_toArray, List.set_cons_zero, List.set_cons_succ, i64_w, i32_w]
          rfl
         refine pure_ (i := 9) (N := some 46) (v := ?_) (a' := ?_) #[true, true, true, true, true, true, true, true, true, true, false] rfl rfl (any_of HT_.out (by kernel_rfl)) (fun _ _ _ h => h) (Or.inl ⟨by rfl, ?_⟩) ?_ ?_
         rotate_left
         ·intro w'
          go_simp
          with_reducible rfl
         rotate_left
         ·simp only [Act.put, List.setIfInBounds_toArray, List.set_cons_zero, List.set_cons_succ, i64_w, i32_w]
          rfl
         refine last_ (i := 10) (N := none) #[true, true, true, true, true, true, true, true, true, true, true] rfl rfl (one_of HT_.out (by kernel_rfl)) (by decide) (fun K hK => ?_)
         have hs51 : w49.cell? ⟨gb409, 2, none⟩ = some (u410002) := (blk_cell BK409.out 2).trans rfl
         have hfs51 := blk_frozen BK409.out 2
         have hns51_0 := NB407_409.out
         have hns51_1 := NB408_409.out
         have hns51_3 := NB415_409.out
         have hms51_0 := NB409_407.out
         have hms51_1 := NB409_408.out
         have hms51_3 := NB409_415.out
         refine skip_ (w1 := ?_) (by rfl) rfl ?_ ?_
         rotate_left
         ·go_simp
          rfl
         refine hK.out _ _ ?_
         clear hK K
         refine done_ (done_of HT_.out (by kernel_rfl)) ?_
         try go_wp2
         go_roundg k1
         case measure => have := HK1.out; omega
         case rel => exact ⟨(wrap64 (x17_1 + 1)), (y420), (.slice Ao50 y420.length co50), ya, H', ⟨by have := HK1.out; omega⟩, ⟨by (with_reducible repeat (first | apply Kd.R_alloc | apply Kd.R_drewN | apply Kd.R_drew)); exact Kd.R_mono (zgR (Kd.R_types HO_15.out BK409.out (by decide))) (fun _ hk => trivial)⟩, ⟨by (with_reducible repeat (first | apply Kd.R_alloc | apply Kd.R_drewN | apply Kd.R_drew)); exact Kd.R_mono (zgR (Kd.R_types HO422.out BK409.out (by decide))) (fun _ hk => trivial)⟩, ⟨by (with_reducible repeat (first | refine blk_drewN ?_ _ | refine blk_drew ?_ | refine blk_alloc ?_ _)); refine blk_far ?_ NB407_409.out _; (with_reducible repeat (first | refine blk_drewN ?_ _ | refine blk_drew ?_ | refine blk_alloc ?_ _)); exact BK407.out⟩, ⟨by (with_reducible repeat (first | refine blk_drewN ?_ _ | refine blk_drew ?_ | refine blk_alloc ?_ _)); refine blk_far ?_ NB408_409.out _; (with_reducible repeat (first | refine blk_drewN ?_ _ | refine blk_drew ?_ | refine blk_alloc ?_ _)); exact BK408.out⟩, ⟨by (with_reducible repeat (first | refine blk_drewN ?_ _ | refine blk_drew ?_ | refine blk_alloc ?_ _)); refine blk_put (cs := #[.int .i64 (Int.tmod a0_0 100), .int .i64 a1, u410002]) ?_ 2 _ rfl; (with_reducible repeat (first | refine blk_drewN ?_ _ | refine blk_drew ?_ | refine blk_alloc ?_ _)); exact BK409.out⟩, ⟨mZ⟩⟩
        rw [if_neg c37] at H
        exact absurd H (by simp)
       rw [if_neg c35] at H
       have c35b0 : decide (x17_1 < 2) = false := decide_eq_false c35
       clear c35
       by_cases c52 : (((rd_T52 l0_2 x17_1).f3).size : Int) > 3
       ·rw [if_pos c52] at H
        have c52b0 : decide (3 < (((rd_T52 l0_2 x17_1).f3).size : Int)) = true := decide_eq_true c52
        have c52b1 : decide (3 < ((rd_T52 l0_2 x17_1).f3).size) = true := decide_eq_true (by omega)
        clear c52
        by_cases c53 : 0 ≤ 3
        ·rw [if_pos c53] at H
         have c53b0 := eq_true c53
         have c53b1 : decide (0 ≤ 3) = true := decide_eq_true c53
         clear c53
         by_cases c54 : 3 ≤ (((rd_T52 l0_2 x17_1).f3).size : Int)
         ·rw [if_pos c54] at H
          have c54b0 := eq_true c54
          have c54b1 : decide (3 ≤ (((rd_T52 l0_2 x17_1).f3).size : Int)) = true := decide_eq_true c54
          clear c54
          replace H := Option.bind_eq_some_iff.mp H
          obtain ⟨⟨t423, t424, t425, t426⟩, A550, H⟩ := H
          try dsimp only at H
          have A55 := zM A550
          clear A550
          by_cases c56 : x410002_1.length < 2932031007402
          ·rw [if_pos c56] at H
           have LMc56 := zM c56
           clear c56
           obtain ⟨y427, hy427⟩ : ∃ y_ : List (S52), y_ = (x410002_1 ++ [(⟨t423, t424, t425, t426⟩ : S52)]) := ⟨_, rfl⟩
           replace H : (columbariumkeep_Tame.l0 k1 y410 (y410.length : Int) (wrap64 (x17_1 + 1)) a0_0 a0_1 l0_2 (Int.tmod a0_0 100) a1 y427) = some (r1, r2, r3) := by first | (rw [hy427]; with_reducible exact H) | (have H2_ := (Option.bind_some _ _).symm.trans H; rw [hy427]; with_reducible exact H2_) | (have H2_ := (Option.bind_some _ _).symm.trans H; with_reducible exact H2_) | with_reducible exact H | (rw [hy427]; exact H) | exact H
           have Ny427 := zM hy427
           clear hy427
           have H' := Aside0.mk H
           clear H
           have p413 : 0 ≤ (x17_1 : Int) := zA
           have q413 : x17_1 < (y410.length : Int) := zA
           obtain ⟨ad413, e413, hx413_0⟩ := Kd.at_string (Kd.R_reads' HO_15.out).2.2 x17_1 p413 q413
           cases e413
           replace p413 := eq_true p413
           replace q413 := eq_true q413
           have hnb57 := NB407_408.out
           have hnc57 := NB408_407.out
           have hnb58 := NB407_409.out
           have hnc58 := NB409_407.out
           obtain ⟨hcz59_0, hcz59_1, hcz59_2, hfz59_0, hfz59_1, hfz59_2⟩ := cells_3 BK407.out
           have p414 : 0 ≤ (x17_1 : Int) := zA
           have q414 : x17_1 < (l0_2.length : Int) := zA
           obtain ⟨ad414, e414, hx414_0, hx414_1, hx414_2, hx414_3⟩ := at_T52 HR0_2.out x17_1 p414 q414
           cases e414
           replace hx414_0 := zH HB hx414_0
           replace hx414_1 := zH HB hx414_1
           replace hx414_2 := zH HB hx414_2
           replace hx414_3 := zH HB hx414_3
           replace p414 := eq_true p414
           replace q414 := eq_true q414
           try go_wp2_with (first | ((with_reducible refine gate_dst (N := 8) rfl ?_); refine box_event ?hg (N := 8) ?hd (cs := #[.string (⟨#[]⟩ : ByteArray), .int .i64 0, .int .i64 0, .string (⟨#[]⟩ : ByteArray)]) (t := 52) ?hr ?_; (case hd => rfl); (case hg => rfl); (case hr => first | (go_simp; done) | (go_simp; rfl)); intro gb415 hg w60 hbox hb; replace HO_15 := zR HO_15 hb; replace HO_410002 := zM (Kd.R_below (Kd.R_elderB (mR HO_410002.out) gb415 (Nat.le_of_eq hg.symm)) hb); have BK415 := zM (hbox); have GW415 := zM ((by rw [hg]; exact (below_size mZ) : w.heap.size ≤ gb415)); replace HB := zM (below_step mZ hb); have GE415 := GW415; have NB407_415 := zL BK407 hg; have NB415_407 := zG BK407 hg; replace BK407 := zK BK407 hb; have NB408_415 := zL BK408 hg; have NB415_408 := zG BK408 hg; replace BK408 := zK BK408 hb; have NB409_415 := zL BK409 hg; have NB415_409 := zG BK409 hg; replace BK409 := zK BK409 hb; clear hb hbox hg; have hnb61 := NB415_407.out; have hnc61 := NB407_415.out; have hnb62 := NB415_408.out; have hnc62 := NB408_415.out; have hnb63 := NB415_409.out; have hnc63 := NB409_415.out; obtain ⟨hcz64_0, hcz64_1, hcz64_2, hcz64_3, hfz64_0, hfz64_1, hfz64_2, hfz64_3⟩ := cells_4 BK415.out))
           generalize hq_ : ((((w60.setCell ⟨gb415, 0, none⟩ (.string ((rd_T52 l0_2 x17_1).f0))).setCell ⟨gb415, 1, none⟩ (.int .i64 ((rd_T52 l0_2 x17_1).f1))).setCell ⟨gb415, 2, none⟩ (.int .i64 ((rd_T52 l0_2 x17_1).f2))).setCell ⟨gb415, 3, none⟩ (.string ((rd_T52 l0_2 x17_1).f3))) = w65
           replace HO_15 : Aside0 (Kd.R Kd.string 9 w65 w.heap.size (fun _ => True) (.slice (some ad413) y410.length co13) y410) := ⟨by subst hq_; (with_reducible repeat (first | apply Kd.R_alloc | apply Kd.R_drewN | apply Kd.R_drew)); exact Kd.R_mono (zgR (Kd.R_types HO_15.out BK415.out (by decide))) (fun _ hk => trivial)⟩
           replace HO_410002 := zqR4 (ok' := fun k_ => k_ ≠ gb415) hq_ HO_410002 (fun _ hk => hk.2) (fun _ hk => hk.1.2)
           replace BK407 := zf4 hq_ BK407 NB407_415
           replace BK408 := zf4 hq_ BK408 NB408_415
           replace BK409 := zf4 hq_ BK409 NB409_415
           replace BK415 := zp4 hq_ BK415
           replace HB : Aside0 (Below w.heap.size w w65) := ⟨by subst hq_; exact mZ⟩
           clear hq_
           replace HO_15 := zM (Kd.R_drew HO_15.out)
           replace HO_410002 := zM (Kd.R_drew HO_410002.out)
           replace BK407 := zM (blk_drew BK407.out)
           replace BK408 := zM (blk_drew BK408.out)
           replace BK409 := zM (blk_drew BK409.out)
           replace BK415 := zM (blk_drew BK415.out)
           replace HB := zM (below_drew1 HB.out)
           refine start_ (n := 9) (S := fun w' => w'.cell? ⟨gb409, 0, none⟩ = some (.int .i64 (Int.tmod a0_0 100)) ∧ w'.cell? ⟨gb409, 1, none⟩ = some (.int .i64 a1) ∧ w'.cell? ⟨gb409, 2, none⟩ = some (u410002)) (ds := [8]) #[false, false, false, false, false, false, false, false, false] (by kernel_rfl) rfl rfl (zJ3 BK409) (fun hHeld => ?_); refine with_tabW columbariumkeep_Tame.tab13 columbariumkeep_Tame.bits13 (fun HT_ HW_ => ?_)
           generalize w65.drew = w66 at HO_15 HO_410002 BK407 BK408 BK409 BK415 HB hHeld ⊢
           refine pure_ (i := 0) (N := some 54) (v := ?_) (a' := ?_) #[true, false, false, false, false, false, false, false, false] rfl rfl (any_of HT_.out (by kernel_rfl)) (fun _ _ _ h => h) (Or.inl ⟨by rfl, ?_⟩) ?_ ?_
           rotate_left
           ·intro w'
            go_simp
            with_reducible rfl
           rotate_left
           ·simp only [Act.put, List.setIfInBounds_toArray, List.set_cons_zero, List.set_cons_succ, i64_w, i32_w]
            rfl
           refine pure_ (i := 2) (N := some 56) (v := ?_) (a' := ?_) #[true, false, true, false, false, false, false, false, false] rfl rfl (any_of HT_.out (by kernel_rfl)) (fun _ _ _ h => h) (Or.inl ⟨by rfl, ?_⟩) ?_ ?_
           rotate_left
           ·intro w'
            go_simp
            with_reducible rfl
           rotate_left
           ·simp only [Act.put, List.setIfInBounds_toArray, List.set_cons_zero, List.set_cons_succ, i64_w, i32_w]
            rfl
           refine pure_ (i := 3) (N := some 57) (v := ?_) (a' := ?_) #[true, false, true, true, false, false, false, false, false] rfl rfl (any_of HT_.out (by kernel_rfl)) (fun _ _ _ h => h) (Or.inl ⟨by rfl, ?_⟩) ?_ ?_
           rotate_left
           ·intro w'
            go_simp
            with_reducible rfl
           rotate_left
           ·simp only [Act.put, List.setIfInBounds_toArray, List.set_cons_zero, List.set_cons_succ, i64_w, i32_w]
            rfl
           refine take_ (i := 1) (N := some 55) (v := ?_) (a' := ?_) #[true, true, true, true, false, false, false, false, false] rfl rfl (take_ofW HT_.out HW_.out (by kernel_rfl)) (fun _ _ _ h => h) (Or.inl ⟨by rfl, ?_⟩) hHeld ?_ ?_
           rotate_left
           ·rintro w' ⟨s0, s1, s2⟩
            go_simp
            with_reducible rfl
           rotate_left
           ·simp only [Act.put, List.setIfInBounds_toArray, List.set_cons_zero, List.set_cons_succ, i64_w, i32_w]
            rfl
           refine one_ (i := 4) (N := some 58) #[true, true, true, true, true, false, false, false, false] rfl rfl (one_of HT_.out (by kernel_rfl)) (by decide) (fun K hK => ?_)
           refine goes_ Try.func24 (by kernel_rfl) rfl #[.string (rdOf ByteArray.empty y410 x17_1), .string (((rd_T52 l0_2 x17_1).f3).extract 0 3)] (by rfl) rfl rfl yb ?_
           with_reducible refine (columbariumkeep_Str.calls (rdOf ByteArray.empty y410 x17_1) (((rd_T52 l0_2 x17_1).f3).extract 0 3) t423 t424 t425 t426 _ A55.out).mono ?_
           rintro e w67 ⟨rfl, hb⟩
           refine ⟨_, rfl, ?_⟩
           replace HO_15 := zR HO_15 hb
           replace HO_410002 := zR HO_410002 hb
           replace BK407 := zK BK407 hb
           replace BK408 := zK BK408 hb
           replace BK409 := zK BK409 hb
           replace BK415 := zK BK415 hb
           replace HB := zM (below_step mZ hb)
           (try clear hb)
           (try clear hb2)
           (try clear hk)
           (try clear hi)
           refine hK.out _ _ (zJ3 BK409) (fun hHeld => ?_)
           clear hK K
           refine norm_ (a' := ?_) ?_ ?_
           rotate_left
           ·show Act.put _ (some 58) _ = _
            simp only [Act.put, List.setIfInBounds_toArray, List.set_cons_zero, List.set_cons_succ, i64_w, i32_w]
            rfl
           refine one_ (i := 5) (N := some 59) #[true, true, true, true, true, true, false, false, false] rfl rfl (one_of HT_.out (by kernel_rfl)) (by decide) (fun K hK => ?_)
           refine value_ (w1 := ?_) (v := ?_) (by rfl) rfl ?_ ?_
           rotate_left 2
           ·go_simp
            constructor
            ·rfl
            rfl
           refine hK.out _ _ ⟨(blk_cell (blk_alloc BK409.out _) 0).trans rfl, (blk_cell (blk_alloc BK409.out _) 1).trans rfl, (blk_cell (blk_alloc BK409.out _) 2).trans rfl⟩ (fun hHeld => ?_)
           clear hK K
           refine norm_ (a' := ?_) ?_ ?_
           rotate_left
           ·show Act.put _ (some 59) _ = _
            simp only [Act.put, List.setIfInBounds_toArray, List.set_cons_zero, List.set_cons_succ, i64_w, i32_w]
            rfl
           refine one_ (i := 6) (N := some 60) #[true, true, true, true, true, true, true, false, false] rfl rfl (one_of HT_.out (by kernel_rfl)) (by decide) (fun K hK => ?_)
           refine Kd.R_append_step k52 (w0 := w) w.heap.size (by rfl) (.tmp 55) (.tmp 59) 34 52 (.agg #[(.string ⟨#[]⟩), (.int .i64 0), (.int .i64 0), (.string ⟨#[]⟩)]) 48 rfl Try.underlying34 info52 rfl (by decide) (by omega) u410002 x410002_1 (⟨t423, t424, t425, t426⟩ : S52) [.string t423, .int .i64 t424, .int .i64 t425, .string t426] (fun k_ => k_ ≠ gb415) (fun _ => False) rfl rfl ?aP (fun _ hk => hk.elim) ?aF ?aO ?aB ?aS ?aL ?_
           (case aP => exact k52_mkM _ _ _ (⟨t423, t424, t425, t426⟩ : S52))
           (case aB => exact mZ)
           (case aF => exact (fun k_ hk => fK BK415 hk))
           (case aO => exact (mR HO_410002.out))
           (case aS => exact (below_size mZ))
           (case aL => have := LMc56.out; omega)
           intro v428 w68 ho hb hg hat
           rw [← Ny427.out] at ho
           replace HO_15 := zM (Kd.R_over' (mR HO_15.out) (Kd.R_typed (mR HO_410002.out)) (by decide) hg)
           replace BK407 := zM (blk_grown (mK BK407.out) hg (Kd.R_ne HO_410002.out BK407.out (by decide)))
           replace BK408 := zM (blk_grown (mK BK408.out) hg (Kd.R_ne HO_410002.out BK408.out (by decide)))
           replace BK409 := zM (blk_grown (mK BK409.out) hg (Kd.R_ne HO_410002.out BK409.out (by decide)))
           replace BK415 := zM (blk_grown (mK BK415.out) hg (Kd.R_away HO_410002.out (fun _ hk => hk)))
           replace HB := zM (hb)
           have HO429 := zM (ho)
           clear HO_410002
           clear ho hb hg hat
           obtain ⟨Ao69, co69, eo69⟩ := Kd.R_slice HO429.out
           (first | subst eo69 | (injection eo69 with f1_ f2_ f3_; have f4_ := f1_.symm; have f5_ := f3_.symm; clear f1_ f2_ f3_; subst f4_; subst f5_))
           refine hK.out _ _ (zJ3 BK409) (fun hHeld => ?_)
           clear hK K
           refine norm_ (a' := ?_) ?_ ?_
           rotate_left
           ·show Act.put _ (some 60) _ = _
            simp only [Act.put, List.setIfInBounds_toArray, List.set_cons_zero, List.set_cons_succ, i64_w, i32_w]
            rfl
           refine pure_ (i := 7) (N := some 61) (v := ?_) (a' := ?_) #[true, true, true, true, true, true, true, true, false] rfl rfl (any_of HT_.out (by kernel_rfl)) (fun _ _ _ h => h) (Or.inl ⟨by rfl, ?_⟩) ?_ ?_
           rotate_left
           ·intro w'
            go_simp
            with_reducible rfl
           rotate_left
           ·simp only [Act.put, List.setIfInBounds_toArray, List.set_cons_zero, List.set_cons_succ, i64_w, i32_w]
            rfl
           refine last_ (i := 8) (N := none) #[true, true, true, true, true, true, true, true, true] rfl rfl (one_of HT_.out (by kernel_rfl)) (by decide) (fun K hK => ?_)
           have hs70 : w68.cell? ⟨gb409, 2, none⟩ = some (u410002) := (blk_cell BK409.out 2).trans rfl
           have hfs70 := blk_frozen BK409.out 2
           have hns70_0 := NB407_409.out
           have hns70_1 := NB408_409.out
           have hns70_3 := NB415_409.out
           have hms70_0 := NB409_407.out
           have hms70_1 := NB409_408.out
           have hms70_3 := NB409_415.out
           refine skip_ (w1 := ?_) (by rfl) rfl ?_ ?_
           rotate_left
           ·go_simp
            rfl
           refine hK.out _ _ ?_
           clear hK K
           refine done_ (done_of HT_.out (by kernel_rfl)) ?_
           try go_wp2
           go_roundg k1
           case measure => have := HK1.out; omega
           case rel => exact ⟨(wrap64 (x17_1 + 1)), (y427), (.slice Ao69 y427.length co69), ya, H', ⟨by have := HK1.out; omega⟩, ⟨by (with_reducible repeat (first | apply Kd.R_alloc | apply Kd.R_drewN | apply Kd.R_drew)); exact Kd.R_mono (zgR (Kd.R_types HO_15.out BK409.out (by decide))) (fun _ hk => trivial)⟩, ⟨by (with_reducible repeat (first | apply Kd.R_alloc | apply Kd.R_drewN | apply Kd.R_drew)); exact Kd.R_mono (zgR (Kd.R_types HO429.out BK409.out (by decide))) (fun _ hk => trivial)⟩, ⟨by (with_reducible repeat (first | refine blk_drewN ?_ _ | refine blk_drew ?_ | refine blk_alloc ?_ _)); refine blk_far ?_ NB407_409.out _; (with_reducible repeat (first | refine blk_drewN ?_ _ | refine blk_drew ?_ | refine blk_alloc ?_ _)); exact BK407.out⟩, ⟨by (with_reducible repeat (first | refine blk_drewN ?_ _ | refine blk_drew ?_ | refine blk_alloc ?_ _)); refine blk_far ?_ NB408_409.out _; (with_reducible repeat (first | refine blk_drewN ?_ _ | refine blk_drew ?_ | refine blk_alloc ?_ _)); exact BK408.out⟩, ⟨by (with_reducible repeat (first | refine blk_drewN ?_ _ | refine blk_drew ?_ | refine blk_alloc ?_ _)); refine blk_put (cs := #[.int .i64 (Int.tmod a0_0 100), .int .i64 a1, u410002]) ?_ 2 _ rfl; (with_reducible repeat (first | refine blk_drewN ?_ _ | refine blk_drew ?_ | refine blk_alloc ?_ _)); exact BK409.out⟩, ⟨mZ⟩⟩
          rw [if_neg c56] at H
          exact absurd H (by simp)
         rw [if_neg c54] at H
         exact absurd H (by simp)
        rw [if_neg c53] at H
        exact absurd H (by simp)
       rw [if_neg c52] at H
       have c52b0 : decide (3 < (((rd_T52 l0_2 x17_1).f3).size : Int)) = false := decide_eq_false c52
       have c52b1 : decide (3 < ((rd_T52 l0_2 x17_1).f3).size) = false := decide_eq_false (by omega)
       clear c52
       replace H := Option.bind_eq_some_iff.mp H
       obtain ⟨⟨t430, t431, t432, t433⟩, A710, H⟩ := H
       try dsimp only at H
       have A71 := zM A710
       clear A710
       by_cases c72 : x410002_1.length < 2932031007402
       ·rw [if_pos c72] at H
        have LMc72 := zM c72
        clear c72
        obtain ⟨y434, hy434⟩ : ∃ y_ : List (S52), y_ = (x410002_1 ++ [(⟨t430, t431, t432, t433⟩ : S52)]) := ⟨_, rfl⟩
        replace H : (columbariumkeep_Tame.l0 k1 y410 (y410.length : Int) (wrap64 (x17_1 + 1)) a0_0 a0_1 l0_2 (Int.tmod a0_0 100) a1 y434) = some (r1, r2, r3) := by first | (rw [hy434]; with_reducible exact H) | (have H2_ := (Option.bind_some _ _).symm.trans H; rw [hy434]; with_reducible exact H2_) | (have H2_ := (Option.bind_some _ _).symm.trans H; with_reducible exact H2_) | with_reducible exact H | (rw [hy434]; exact H) | exact H
        have Ny434 := zM hy434
        clear hy434
        have H' := Aside0.mk H
        clear H
        have p413 : 0 ≤ (x17_1 : Int) := zA
        have q413 : x17_1 < (y410.length : Int) := zA
        obtain ⟨ad413, e413, hx413_0⟩ := Kd.at_string (Kd.R_reads' HO_15.out).2.2 x17_1 p413 q413
        cases e413
        replace p413 := eq_true p413
        replace q413 := eq_true q413
        have hnb73 := NB407_408.out
        have hnc73 := NB408_407.out
        have hnb74 := NB407_409.out
        have hnc74 := NB409_407.out
        obtain ⟨hcz75_0, hcz75_1, hcz75_2, hfz75_0, hfz75_1, hfz75_2⟩ := cells_3 BK407.out
        have p414 : 0 ≤ (x17_1 : Int) := zA
        have q414 : x17_1 < (l0_2.length : Int) := zA
        obtain ⟨ad414, e414, hx414_0, hx414_1, hx414_2, hx414_3⟩ := at_T52 HR0_2.out x17_1 p414 q414
        cases e414
        replace hx414_0 := zH HB hx414_0
        replace hx414_1 := zH HB hx414_1
        replace hx414_2 := zH HB hx414_2
        replace hx414_3 := zH HB hx414_3
        replace p414 := eq_true p414
        replace q414 := eq_true q414
        try go_wp2_with (first | ((with_reducible refine gate_dst (N := 8) rfl ?_); refine box_event ?hg (N := 8) ?hd (cs := #[.string (⟨#[]⟩ : ByteArray), .int .i64 0, .int .i64 0, .string (⟨#[]⟩ : ByteArray)]) (t := 52) ?hr ?_; (case hd => rfl); (case hg => rfl); (case hr => first | (go_simp; done) | (go_simp; rfl)); intro gb415 hg w76 hbox hb; replace HO_15 := zR HO_15 hb; replace HO_410002 := zM (Kd.R_below (Kd.R_elderB (mR HO_410002.out) gb415 (Nat.le_of_eq hg.symm)) hb); have BK415 := zM (hbox); have GW415 := zM ((by rw [hg]; exact (below_size mZ) : w.heap.size ≤ gb415)); replace HB := zM (below_step mZ hb); have GE415 := GW415; have NB407_415 := zL BK407 hg; have NB415_407 := zG BK407 hg; replace BK407 := zK BK407 hb; have NB408_415 := zL BK408 hg; have NB415_408 := zG BK408 hg; replace BK408 := zK BK408 hb; have NB409_415 := zL BK409 hg; have NB415_409 := zG BK409 hg; replace BK409 := zK BK409 hb; clear hb hbox hg; have hnb77 := NB415_407.out; have hnc77 := NB407_415.out; have hnb78 := NB415_408.out; have hnc78 := NB408_415.out; have hnb79 := NB415_409.out; have hnc79 := NB409_415.out; obtain ⟨hcz80_0, hcz80_1, hcz80_2, hcz80_3, hfz80_0, hfz80_1, hfz80_2, hfz80_3⟩ := cells_4 BK415.out))
        generalize hq_ : ((((w76.setCell ⟨gb415, 0, none⟩ (.string ((rd_T52 l0_2 x17_1).f0))).setCell ⟨gb415, 1, none⟩ (.int .i64 ((rd_T52 l0_2 x17_1).f1))).setCell ⟨gb415, 2, none⟩ (.int .i64 ((rd_T52 l0_2 x17_1).f2))).setCell ⟨gb415, 3, none⟩ (.string ((rd_T52 l0_2 x17_1).f3))) = w81
        replace HO_15 : Aside0 (Kd.R Kd.string 9 w81 w.heap.size (fun _ => True) (.slice (some ad413) y410.length co13) y410) := ⟨by subst hq_; (with_reducible repeat (first | apply Kd.R_alloc | apply Kd.R_drewN | apply Kd.R_drew)); exact Kd.R_mono (zgR (Kd.R_types HO_15.out BK415.out (by decide))) (fun _ hk => trivial)⟩
        replace HO_410002 := zqR4 (ok' := fun k_ => k_ ≠ gb415) hq_ HO_410002 (fun _ hk => hk.2) (fun _ hk => hk.1.2)
        replace BK407 := zf4 hq_ BK407 NB407_415
        replace BK408 := zf4 hq_ BK408 NB408_415
        replace BK409 := zf4 hq_ BK409 NB409_415
        replace BK415 := zp4 hq_ BK415
        replace HB : Aside0 (Below w.heap.size w w81) := ⟨by subst hq_; exact mZ⟩
        clear hq_
        replace HO_15 := zM (Kd.R_drew HO_15.out)
        replace HO_410002 := zM (Kd.R_drew HO_410002.out)
        replace BK407 := zM (blk_drew BK407.out)
        replace BK408 := zM (blk_drew BK408.out)
        replace BK409 := zM (blk_drew BK409.out)
        replace BK415 := zM (blk_drew BK415.out)
        replace HB := zM (below_drew1 HB.out)
        refine start_ (n := 9) (S := fun w' => w'.cell? ⟨gb409, 0, none⟩ = some (.int .i64 (Int.tmod a0_0 100)) ∧ w'.cell? ⟨gb409, 1, none⟩ = some (.int .i64 a1) ∧ w'.cell? ⟨gb409, 2, none⟩ = some (u410002)) (ds := [8]) #[false, false, false, false, false, false, false, false, false] (by kernel_rfl) rfl rfl (zJ3 BK409) (fun hHeld => ?_); refine with_tabW columbariumkeep_Tame.tab13 columbariumkeep_Tame.bits13 (fun HT_ HW_ => ?_)
        generalize w81.drew = w82 at HO_15 HO_410002 BK407 BK408 BK409 BK415 HB hHeld ⊢
        refine pure_ (i := 0) (N := some 54) (v := ?_) (a' := ?_) #[true, false, false, false, false, false, false, false, false] rfl rfl (any_of HT_.out (by kernel_rfl)) (fun _ _ _ h => h) (Or.inl ⟨by rfl, ?_⟩) ?_ ?_
        rotate_left
        ·intro w'
         go_simp
         with_reducible rfl
        rotate_left
        ·simp only [Act.put, List.setIfInBounds_toArray, List.set_cons_zero, List.set_cons_succ, i64_w, i32_w]
         rfl
        refine pure_ (i := 2) (N := some 56) (v := ?_) (a' := ?_) #[true, false, true, false, false, false, false, false, false] rfl rfl (any_of HT_.out (by kernel_rfl)) (fun _ _ _ h => h) (Or.inl ⟨by rfl, ?_⟩) ?_ ?_
        rotate_left
        ·intro w'
         go_simp
         with_reducible rfl
        rotate_left
        ·simp only [Act.put, List.setIfInBounds_toArray, List.set_cons_zero, List.set_cons_succ, i64_w, i32_w]
         rfl
        refine pure_ (i := 3) (N := some 57) (v := ?_) (a' := ?_) #[true, false, true, true, false, false, false, false, false] rfl rfl (any_of HT_.out (by kernel_rfl)) (fun _ _ _ h => h) (Or.inl ⟨by rfl, ?_⟩) ?_ ?_
        rotate_left
        ·intro w'
         go_simp
         with_reducible rfl
        rotate_left
        ·simp only [Act.put, List.setIfInBounds_toArray, List.set_cons_zero, List.set_cons_succ, i64_w, i32_w]
         rfl
        refine take_ (i := 1) (N := some 55) (v := ?_) (a' := ?_) #[true, true, true, true, false, false, false, false, false] rfl rfl (take_ofW HT_.out HW_.out (by kernel_rfl)) (fun _ _ _ h => h) (Or.inl ⟨by rfl, ?_⟩) hHeld ?_ ?_
        rotate_left
        ·rintro w' ⟨s0, s1, s2⟩
         go_simp
         with_reducible rfl
        rotate_left
        ·simp only [Act.put, List.setIfInBounds_toArray, List.set_cons_zero, List.set_cons_succ, i64_w, i32_w]
         rfl
        refine one_ (i := 4) (N := some 58) #[true, true, true, true, true, false, false, false, false] rfl rfl (one_of HT_.out (by kernel_rfl)) (by decide) (fun K hK => ?_)
        refine goes_ Try.func24 (by kernel_rfl) rfl #[.string (rdOf ByteArray.empty y410 x17_1), .string ((rd_T52 l0_2 x17_1).f3)] (by rfl) rfl rfl yb ?_
        with_reducible refine (columbariumkeep_Str.calls (rdOf ByteArray.empty y410 x17_1) ((rd_T52 l0_2 x17_1).f3) t430 t431 t432 t433 _ A71.out).mono ?_
        rintro e w83 ⟨rfl, hb⟩
        refine ⟨_, rfl, ?_⟩
        replace HO_15 := zR HO_15 hb
        replace HO_410002 := zR HO_410002 hb
        replace BK407 := zK BK407 hb
        replace BK408 := zK BK408 hb
        replace BK409 := zK BK409 hb
        replace BK415 := zK BK415 hb
        replace HB := zM (below_step mZ hb)
        (try clear hb)
        (try clear hb2)
        (try clear hk)
        (try clear hi)
        refine hK.out _ _ (zJ3 BK409) (fun hHeld => ?_)
        clear hK K
        refine norm_ (a' := ?_) ?_ ?_
        rotate_left
        ·show Act.put _ (some 58) _ = _
         simp only [Act.put, List.setIfInBounds_toArray, List.set_cons_zero, List.set_cons_succ, i64_w, i32_w]
         rfl
        refine one_ (i := 5) (N := some 59) #[true, true, true, true, true, true, false, false, false] rfl rfl (one_of HT_.out (by kernel_rfl)) (by decide) (fun K hK => ?_)
        refine value_ (w1 := ?_) (v := ?_) (by rfl) rfl ?_ ?_
        rotate_left 2
        ·go_simp
         constructor
         ·rfl
         rfl
        refine hK.out _ _ ⟨(blk_cell (blk_alloc BK409.out _) 0).trans rfl, (blk_cell (blk_alloc BK409.out _) 1).trans rfl, (blk_cell (blk_alloc BK409.out _) 2).trans rfl⟩ (fun hHeld => ?_)
        clear hK K
        refine norm_ (a' := ?_) ?_ ?_
        rotate_left
        ·show Act.put _ (some 59) _ = _
         simp only [Act.put, List.setIfInBounds_toArray, List.set_cons_zero, List.set_cons_succ, i64_w, i32_w]
         rfl
        refine one_ (i := 6) (N := some 60) #[true, true, true, true, true, true, true, false, false] rfl rfl (one_of HT_.out (by kernel_rfl)) (by decide) (fun K hK => ?_)
        refine Kd.R_append_step k52 (w0 := w) w.heap.size (by rfl) (.tmp 55) (.tmp 59) 34 52 (.agg #[(.string ⟨#[]⟩), (.int .i64 0), (.int .i64 0), (.string ⟨#[]⟩)]) 48 rfl Try.underlying34 info52 rfl (by decide) (by omega) u410002 x410002_1 (⟨t430, t431, t432, t433⟩ : S52) [.string t430, .int .i64 t431, .int .i64 t432, .string t433] (fun k_ => k_ ≠ gb415) (fun _ => False) rfl rfl ?aP (fun _ hk => hk.elim) ?aF ?aO ?aB ?aS ?aL ?_
        (case aP => exact k52_mkM _ _ _ (⟨t430, t431, t432, t433⟩ : S52))
        (case aB => exact mZ)
        (case aF => exact (fun k_ hk => fK BK415 hk))
        (case aO => exact (mR HO_410002.out))
        (case aS => exact (below_size mZ))
        (case aL => have := LMc72.out; omega)
        intro v435 w84 ho hb hg hat
        rw [← Ny434.out] at ho
        replace HO_15 := zM (Kd.R_over' (mR HO_15.out) (Kd.R_typed (mR HO_410002.out)) (by decide) hg)
        replace BK407 := zM (blk_grown (mK BK407.out) hg (Kd.R_ne HO_410002.out BK407.out (by decide)))
        replace BK408 := zM (blk_grown (mK BK408.out) hg (Kd.R_ne HO_410002.out BK408.out (by decide)))
        replace BK409 := zM (blk_grown (mK BK409.out) hg (Kd.R_ne HO_410002.out BK409.out (by decide)))
        replace HB := zM (hb)
        have HO436 := zM (ho)
        clear HO_410002
        clear ho hb hg hat
        obtain ⟨Ao85, co85, eo85⟩ := Kd.R_slice HO436.out
        (first | subst eo85 | (injection eo85 with f1_ f2_ f3_; have f4_ := f1_.symm; have f5_ := f3_.symm; clear f1_ f2_ f3_; subst f4_; subst f5_))
        refine hK.out _ _ (zJ3 BK409) (fun hHeld => ?_)
        clear hK K
        refine norm_ (a' := ?_) ?_ ?_
        rotate_left
        ·show Act.put _ (some 60) _ = _
         simp only [Act.put, List.setIfInBounds_toArray, List.set_cons_zero, List.set_cons_succ, i64_w, i32_w]
         rfl
        refine pure_ (i := 7) (N := some 61) (v := ?_) (a' := ?_) #[true, true, true, true, true, true, true, true, false] rfl rfl (any_of HT_.out (by kernel_rfl)) (fun _ _ _ h => h) (Or.inl ⟨by rfl, ?_⟩) ?_ ?_
        rotate_left
        ·intro w'
         go_simp
         with_reducible rfl
        rotate_left
        ·simp only [Act.put, List.setIfInBounds_toArray, List.set_cons_zero, List.set_cons_succ, i64_w, i32_w]
         rfl
        refine last_ (i := 8) (N := none) #[true, true, true, true, true, true, true, true, true] rfl rfl (one_of HT_.out (by kernel_rfl)) (by decide) (fun K hK => ?_)
        have hs86 : w84.cell? ⟨gb409, 2, none⟩ = some (u410002) := (blk_cell BK409.out 2).trans rfl
        have hfs86 := blk_frozen BK409.out 2
        have hns86_0 := NB407_409.out
        have hns86_1 := NB408_409.out
        have hns86_3 := NB415_409.out
        have hms86_0 := NB409_407.out
        have hms86_1 := NB409_408.out
        have hms86_3 := NB409_415.out
        refine skip_ (w1 := ?_) (by rfl) rfl ?_ ?_
        rotate_left
        ·go_simp
         rfl
        refine hK.out _ _ ?_
        clear hK K
        refine done_ (done_of HT_.out (by kernel_rfl)) ?_
        try go_wp2
        go_roundg k1
        case measure => have := HK1.out; omega
        case rel => exact ⟨(wrap64 (x17_1 + 1)), (y434), (.slice Ao85 y434.length co85), ya, H', ⟨by have := HK1.out; omega⟩, ⟨by (with_reducible repeat (first | apply Kd.R_alloc | apply Kd.R_drewN | apply Kd.R_drew)); exact Kd.R_mono (zgR (Kd.R_types HO_15.out BK409.out (by decide))) (fun _ hk => trivial)⟩, ⟨by (with_reducible repeat (first | apply Kd.R_alloc | apply Kd.R_drewN | apply Kd.R_drew)); exact Kd.R_mono (zgR (Kd.R_types HO436.out BK409.out (by decide))) (fun _ hk => trivial)⟩, ⟨by (with_reducible repeat (first | refine blk_drewN ?_ _ | refine blk_drew ?_ | refine blk_alloc ?_ _)); refine blk_far ?_ NB407_409.out _; (with_reducible repeat (first | refine blk_drewN ?_ _ | refine blk_drew ?_ | refine blk_alloc ?_ _)); exact BK407.out⟩, ⟨by (with_reducible repeat (first | refine blk_drewN ?_ _ | refine blk_drew ?_ | refine blk_alloc ?_ _)); refine blk_far ?_ NB408_409.out _; (with_reducible repeat (first | refine blk_drewN ?_ _ | refine blk_drew ?_ | refine blk_alloc ?_ _)); exact BK408.out⟩, ⟨by (with_reducible repeat (first | refine blk_drewN ?_ _ | refine blk_drew ?_ | refine blk_alloc ?_ _)); refine blk_put (cs := #[.int .i64 (Int.tmod a0_0 100), .int .i64 a1, u410002]) ?_ 2 _ rfl; (with_reducible repeat (first | refine blk_drewN ?_ _ | refine blk_drew ?_ | refine blk_alloc ?_ _)); exact BK409.out⟩, ⟨mZ⟩⟩
       rw [if_neg c72] at H
       exact absurd H (by simp)
      rw [if_neg c25] at H
      exact absurd H (by simp)
     rw [if_neg c16] at H
     exact absurd H (by simp)
    rw [if_neg c15] at H
    exact absurd H (by simp)
   rw [if_neg c14] at H
   have c14b0 : decide (x17_1 < (y410.length : Int)) = false := decide_eq_false c14
   clear c14
   simp only [Option.some.injEq, Prod.mk.injEq] at H
   obtain ⟨rfl, rfl, rfl⟩ := H
   have hnb87 := NB409_407.out
   have hnc87 := NB407_409.out
   have hnb88 := NB409_408.out
   have hnc88 := NB408_409.out
   obtain ⟨hcz89_0, hcz89_1, hcz89_2, hfz89_0, hfz89_1, hfz89_2⟩ := cells_3 BK409.out
   have hnb90 := NB408_407.out
   have hnc90 := NB407_408.out
   obtain ⟨hcz91_0, hcz91_1, hcz91_2, hfz91_0, hfz91_1, hfz91_2⟩ := cells_3 BK408.out
   obtain ⟨Ao92, co92, eo92⟩ := Kd.R_slice HO_410002.out
   subst eo92
   go_wp2
   refine bodyPost_ret (results_cell_row rfl _ _ gb408 36 #[.int .i64 (Int.tmod a0_0 100), .int .i64 a1, .slice Ao92 x410002_1.length co92] (0, 0) _ rfl (by (with_reducible repeat (first | refine blk_drewN ?_ _ | refine blk_drew ?_ | refine blk_alloc ?_ _)); apply puts_3; (with_reducible repeat (first | refine blk_drewN ?_ _ | refine blk_drew ?_ | refine blk_alloc ?_ _)); exact BK408.out) Try.underlying36 rfl (by kernel_rfl)) rfl ?_
   exact ⟨_, by first | rfl | (simp [errW_none, errW_some] <;> rfl) | (simp [*, errW_none, errW_some] <;> rfl), by (with_reducible repeat (first | apply Kd.R_alloc | apply Kd.R_drewN | apply Kd.R_drew)); exact Kd.R_mono (zgR (Kd.R_types HO_410002.out BK408.out (by decide))) (fun _ hk => trivial), mZ⟩

end Go.Proofs.Ytalpcnomfebdiaa.QPredRules
