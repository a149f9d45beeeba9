-- Written by a program of this session (wip/myprint.py): the machine's side of a law
import Derived.Test.YtalpcnomfebdiaaQPredLimitsx0
import Derived.Test.YtalpcnomfebdiaaQPredLimitsx6
namespace Go.Proofs.Ytalpcnomfebdiaa.QPredLimits
open Go.RowKit Go.Proofs.YtalpcnomfebdiaaW.PrintWords Go.Proofs.YtalpcnomfebdiaaW.PrintLast Go.Proofs.YtalpcnomfebdiaaW.PrintMore
attribute [local go_sem] max2_int min2_int max_two min_two max_three min_three max_four min_four   -- for this text's walks alone
set_option linter.unusedVariables false
set_option linter.unusedSimpArgs false

/-! ### pred_normal: function 28 -/
mutual
def pred_normal.j1 : Nat → Bool → Int → Int → ByteArray → Int → Int → ByteArray → List ByteArray → List (S25) → Option (Int × ByteArray × Int × Int × ByteArray × List ByteArray × (List (S25)))
 | 0, _, _, _, _, _, _, _, _, _ => none
 | k + 1, x1, x5, x169000, x169001, x169002, x169003, x169004, x169005, x169006 => pred_normal.l0 k x1 x5 x169006 (x169006.length : Int) 0 x5 (⟨#[]⟩ : ByteArray) 0 0 (⟨#[]⟩ : ByteArray) ([] : List (S25))
def pred_normal.l0 : Nat → Bool → Int → List (S25) → Int → Int → Int → ByteArray → Int → Int → ByteArray → List (S25) → Option (Int × ByteArray × Int × Int × ByteArray × List ByteArray × (List (S25)))
 | 0, _, _, _, _, _, _, _, _, _, _, _ => none
 | k + 1, x1, x5, x38, x39, x40, x208000, x208001, x208002, x208003, x208004, x208006 => if x40 < x39 then (if 0 ≤ x40 then (if x40 < (x38.length : Int) then ((pred_normal.f k ((rd_T25 x38 x40).f0) ((rd_T25 x38 x40).f1) ((rd_T25 x38 x40).f2) ((rd_T25 x38 x40).f3) ((rd_T25 x38 x40).f4) ((rd_T25 x38 x40).f5) ((rd_T25 x38 x40).f6) x1).bind fun bt210 => (if bt210.1 = x5 then (if x208006.length + bt210.2.2.2.2.2.2.length < 1353245080339 then (pred_normal.l0 k x1 x5 x38 x39 (wrap64 (x40 + 1)) x208000 x208001 x208002 x208003 x208004 (x208006 ++ bt210.2.2.2.2.2.2)) else (none)) else (if x208006.length < 1353245080339 then (pred_normal.l0 k x1 x5 x38 x39 (wrap64 (x40 + 1)) x208000 x208001 x208002 x208003 x208004 (x208006 ++ [(⟨bt210.1, bt210.2.1, bt210.2.2.1, bt210.2.2.2.1, bt210.2.2.2.2.1, bt210.2.2.2.2.2.1, bt210.2.2.2.2.2.2⟩ : S25)])) else (none)))) else (none)) else (none)) else (if (x208006.length : Int) = 1 then (if 0 < (x208006.length : Int) then (some ((rd_T25 x208006 0).f0, (rd_T25 x208006 0).f1, (rd_T25 x208006 0).f2, (rd_T25 x208006 0).f3, (rd_T25 x208006 0).f4, (rd_T25 x208006 0).f5, (rd_T25 x208006 0).f6)) else (none)) else (some (x208000, x208001, x208002, x208003, x208004, ([] : List ByteArray), x208006)))
def pred_normal.j0 : Nat → Bool → Int → Bool → Int → ByteArray → Int → Int → ByteArray → List ByteArray → List (S25) → Option (Int × ByteArray × Int × Int × ByteArray × List ByteArray × (List (S25)))
 | 0, _, _, _, _, _, _, _, _, _, _ => none
 | k + 1, x1, x5, x29, x169000, x169001, x169002, x169003, x169004, x169005, x169006 => if x29 = true then (if x1 = true then (pred_normal.j1 k x1 (wrap64 (3 - x5)) x169000 x169001 x169002 x169003 x169004 x169005 x169006) else (pred_normal.j1 k x1 x5 x169000 x169001 x169002 x169003 x169004 x169005 x169006)) else (if x1 = true then ((pred_Copy.f k x169000 x169001 x169002 x169003 x169004 x169005 x169006).bind fun bt182 => (some (3, (⟨#[]⟩ : ByteArray), 0, 0, (⟨#[]⟩ : ByteArray), ([] : List ByteArray), (([(⟨bt182.1, bt182.2.1, bt182.2.2.1, bt182.2.2.2.1, bt182.2.2.2.2.1, bt182.2.2.2.2.2.1, bt182.2.2.2.2.2.2⟩ : S25)] : List (S25)))))) else ((pred_Copy.f k x169000 x169001 x169002 x169003 x169004 x169005 x169006).bind fun bt196 => (some (bt196.1, bt196.2.1, bt196.2.2.1, bt196.2.2.2.1, bt196.2.2.2.2.1, bt196.2.2.2.2.2.1, bt196.2.2.2.2.2.2))))
def pred_normal.f : Nat → Int → ByteArray → Int → Int → ByteArray → List ByteArray → List (S25) → Bool → Option (Int × ByteArray × Int × Int × ByteArray × List ByteArray × (List (S25)))
 | 0, _, _, _, _, _, _, _, _ => none
 | k + 1, a0_0, a0_1, a0_2, a0_3, a0_4, l0_5, l0_6, a1 => if a0_0 = 3 then (if 0 < (l0_6.length : Int) then ((pred_normal.f k ((rd_T25 l0_6 0).f0) ((rd_T25 l0_6 0).f1) ((rd_T25 l0_6 0).f2) ((rd_T25 l0_6 0).f3) ((rd_T25 l0_6 0).f4) ((rd_T25 l0_6 0).f5) ((rd_T25 l0_6 0).f6) (!a1)).bind fun bt171 => (some (bt171.1, bt171.2.1, bt171.2.2.1, bt171.2.2.2.1, bt171.2.2.2.2.1, bt171.2.2.2.2.2.1, bt171.2.2.2.2.2.2))) else (none)) else (if a0_0 = 1 then (pred_normal.j0 k a1 a0_0 (a0_0 == 1) a0_0 a0_1 a0_2 a0_3 a0_4 l0_5 l0_6) else (pred_normal.j0 k a1 a0_0 (a0_0 == 2) a0_0 a0_1 a0_2 a0_3 a0_4 l0_5 l0_6))
end
theorem pred_normal.mono_l : ∀ k, (∀ y0 y1 y2 y3 y4 y5 y6 y7, LeO (pred_normal.f k y0 y1 y2 y3 y4 y5 y6 y7) (pred_normal.f (k + 1) y0 y1 y2 y3 y4 y5 y6 y7)) ∧ (∀ y0 y1 y2 y3 y4 y5 y6 y7 y8, LeO (pred_normal.j1 k y0 y1 y2 y3 y4 y5 y6 y7 y8) (pred_normal.j1 (k + 1) y0 y1 y2 y3 y4 y5 y6 y7 y8)) ∧ (∀ y0 y1 y2 y3 y4 y5 y6 y7 y8 y9 y10, LeO (pred_normal.l0 k y0 y1 y2 y3 y4 y5 y6 y7 y8 y9 y10) (pred_normal.l0 (k + 1) y0 y1 y2 y3 y4 y5 y6 y7 y8 y9 y10)) ∧ (∀ y0 y1 y2 y3 y4 y5 y6 y7 y8 y9, LeO (pred_normal.j0 k y0 y1 y2 y3 y4 y5 y6 y7 y8 y9) (pred_normal.j0 (k + 1) y0 y1 y2 y3 y4 y5 y6 y7 y8 y9))
 | 0 => ⟨fun _ _ _ _ _ _ _ _ r h => by simp [pred_normal.f] at h, fun _ _ _ _ _ _ _ _ _ r h => by simp [pred_normal.j1] at h, fun _ _ _ _ _ _ _ _ _ _ _ r h => by simp [pred_normal.l0] at h, fun _ _ _ _ _ _ _ _ _ _ r h => by simp [pred_normal.j0] at h⟩
 | k + 1 => by
  obtain ⟨ih0, ih1, ih2, ih3⟩ := pred_normal.mono_l k
  refine ⟨?_, ?_, ?_, ?_⟩
  ·intro y0 y1 y2 y3 y4 y5 y6 y7
   unfold pred_normal.f
   repeat' first
   | (with_reducible exact ih0 _ _ _ _ _ _ _ _)
   | (with_reducible exact ih1 _ _ _ _ _ _ _ _ _)
   | (with_reducible exact ih2 _ _ _ _ _ _ _ _ _ _ _)
   | (with_reducible exact ih3 _ _ _ _ _ _ _ _ _ _)
   | (with_reducible exact pred_Copy.mono _ _ _ _ _ _ _ _)
   | (with_reducible exact LeO.refl _)
   | (with_reducible exact LeO.none _)
   | (with_reducible refine LeO.ite ?_ ?_)
   | (with_reducible refine LeO.bind ?_ (fun _ => ?_))
   | exact ih0 _ _ _ _ _ _ _ _
   | exact ih1 _ _ _ _ _ _ _ _ _
   | exact ih2 _ _ _ _ _ _ _ _ _ _ _
   | exact ih3 _ _ _ _ _ _ _ _ _ _
   | exact pred_Copy.mono _ _ _ _ _ _ _ _
   | exact LeO.none _
   | refine LeO.ite ?_ ?_
   | refine LeO.bind ?_ (fun _ => ?_)
  ·intro y0 y1 y2 y3 y4 y5 y6 y7 y8
   unfold pred_normal.j1
   repeat' first
   | (with_reducible exact ih0 _ _ _ _ _ _ _ _)
   | (with_reducible exact ih1 _ _ _ _ _ _ _ _ _)
   | (with_reducible exact ih2 _ _ _ _ _ _ _ _ _ _ _)
   | (with_reducible exact ih3 _ _ _ _ _ _ _ _ _ _)
   | (with_reducible exact pred_Copy.mono _ _ _ _ _ _ _ _)
   | (with_reducible exact LeO.refl _)
   | (with_reducible exact LeO.none _)
   | (with_reducible refine LeO.ite ?_ ?_)
   | (with_reducible refine LeO.bind ?_ (fun _ => ?_))
   | exact ih0 _ _ _ _ _ _ _ _
   | exact ih1 _ _ _ _ _ _ _ _ _
   | exact ih2 _ _ _ _ _ _ _ _ _ _ _
   | exact ih3 _ _ _ _ _ _ _ _ _ _
   | exact pred_Copy.mono _ _ _ _ _ _ _ _
   | exact LeO.none _
   | refine LeO.ite ?_ ?_
   | refine LeO.bind ?_ (fun _ => ?_)
  ·intro y0 y1 y2 y3 y4 y5 y6 y7 y8 y9 y10
   unfold pred_normal.l0
   repeat' first
   | (with_reducible exact ih0 _ _ _ _ _ _ _ _)
   | (with_reducible exact ih1 _ _ _ _ _ _ _ _ _)
   | (with_reducible exact ih2 _ _ _ _ _ _ _ _ _ _ _)
   | (with_reducible exact ih3 _ _ _ _ _ _ _ _ _ _)
   | (with_reducible exact pred_Copy.mono _ _ _ _ _ _ _ _)
   | (with_reducible exact LeO.refl _)
   | (with_reducible exact LeO.none _)
   | (with_reducible refine LeO.ite ?_ ?_)
   | (with_reducible refine LeO.bind ?_ (fun _ => ?_))
   | exact ih0 _ _ _ _ _ _ _ _
   | exact ih1 _ _ _ _ _ _ _ _ _
   | exact ih2 _ _ _ _ _ _ _ _ _ _ _
   | exact ih3 _ _ _ _ _ _ _ _ _ _
   | exact pred_Copy.mono _ _ _ _ _ _ _ _
   | exact LeO.none _
   | refine LeO.ite ?_ ?_
   | refine LeO.bind ?_ (fun _ => ?_)
  ·intro y0 y1 y2 y3 y4 y5 y6 y7 y8 y9
   unfold pred_normal.j0
   repeat' first
   | (with_reducible exact ih0 _ _ _ _ _ _ _ _)
   | (with_reducible exact ih1 _ _ _ _ _ _ _ _ _)
   | (with_reducible exact ih2 _ _ _ _ _ _ _ _ _ _ _)
   | (with_reducible exact ih3 _ _ _ _ _ _ _ _ _ _)
   | (with_reducible exact pred_Copy.mono _ _ _ _ _ _ _ _)
   | (with_reducible exact LeO.refl _)
   | (with_reducible exact LeO.none _)
   | (with_reducible refine LeO.ite ?_ ?_)
   | (with_reducible refine LeO.bind ?_ (fun _ => ?_))
   | exact ih0 _ _ _ _ _ _ _ _
   | exact ih1 _ _ _ _ _ _ _ _ _
   | exact ih2 _ _ _ _ _ _ _ _ _ _ _
   | exact ih3 _ _ _ _ _ _ _ _ _ _
   | exact pred_Copy.mono _ _ _ _ _ _ _ _
   | exact LeO.none _
   | refine LeO.ite ?_ ?_
   | refine LeO.bind ?_ (fun _ => ?_)
theorem pred_normal.mono : ∀ a0 a1 a2 a3 a4 a5 a6 a7 k, LeO (pred_normal.f k a0 a1 a2 a3 a4 a5 a6 a7) (pred_normal.f (k + 1) a0 a1 a2 a3 a4 a5 a6 a7) := by
 intro a0 a1 a2 a3 a4 a5 a6 a7 k
 obtain ⟨ih0, ih1, ih2, ih3⟩ := pred_normal.mono_l k
 exact ih0 a0 a1 a2 a3 a4 a5 a6 a7
set_option maxHeartbeats 8000000 in
set_option maxRecDepth 100000 in
theorem pred_normal.calls (k : Nat) : ∀ (a0_0 : Int) (a0_1 : ByteArray) (a0_2 : Int) (a0_3 : Int) (a0_4 : ByteArray) (A0_5 : Option Addr) (c0_5 : Nat) (l0_5 : List ByteArray) (A0_6 : Option Addr) (c0_6 : Nat) (l0_6 : List (S25)) (a1 : Bool) (r1 : Int) (r2 : ByteArray) (r3 : Int) (r4 : Int) (r5 : ByteArray) (r6 : List ByteArray) (r7 : List (S25)) (w : World) (hr0_5 : Kd.C Kd.string w A0_5 l0_5.length l0_5) (hc0_5 : l0_5.length ≤ c0_5) (hr0_6 : Kd.C k25 w A0_6 l0_6.length l0_6) (hc0_6 : l0_6.length ≤ c0_6) (h : pred_normal.f k a0_0 a0_1 a0_2 a0_3 a0_4 l0_5 l0_6 a1 = some (r1, r2, r3, r4, r5, r6, r7)),
  Calls Try.prog 28 #[.agg #[.int .i64 a0_0, .string a0_1, .int .i64 a0_2, .int .i64 a0_3, .string a0_4, .slice A0_5 l0_5.length c0_5, .slice A0_6 l0_6.length c0_6], .bool a1] w fun e w' => ∃ v5_ v6_ : Value, e = .returned (.agg #[.int .i64 r1, .string r2, .int .i64 r3, .int .i64 r4, .string r5, v5_, v6_]) ∧ Kd.V Kd.string 9 w' w.heap.size (fun k_ => (w.heap.size ≤ k_)) v5_ r6 ∧ Kd.V k25 25 w' w.heap.size (fun k_ => (w.heap.size ≤ k_)) v6_ r7 ∧ Below w.heap.size w w' := by
 induction k using Nat.strongRecOn with
 | _ k ih =>
 intro a0_0 a0_1 a0_2 a0_3 a0_4 A0_5 c0_5 l0_5 A0_6 c0_6 l0_6 a1 r1 r2 r3 r4 r5 r6 r7 w hr0_5 hc0_5 hr0_6 hc0_6 h
 cases k with
 | zero => exact absurd h (by simp [pred_normal.f])
 | succ k =>
 simp only [pred_normal.f] at h
 have hu25 := Try.underlying25
 have HR0_5 := Aside0.mk hr0_5
 have HC0_5 := Aside0.mk hc0_5
 clear hr0_5 hc0_5
 have HR0_6 := Aside0.mk hr0_6
 have HC0_6 := Aside0.mk hc0_6
 clear hr0_6 hc0_6
 have HB := Aside0.mk (Below.refl w.heap.size w)
 have H : (if a0_0 = 3 then (if 0 < (l0_6.length : Int) then ((pred_normal.f k ((rd_T25 l0_6 0).f0) ((rd_T25 l0_6 0).f1) ((rd_T25 l0_6 0).f2) ((rd_T25 l0_6 0).f3) ((rd_T25 l0_6 0).f4) ((rd_T25 l0_6 0).f5) ((rd_T25 l0_6 0).f6) (!a1)).bind fun bt171 => (some (bt171.1, bt171.2.1, bt171.2.2.1, bt171.2.2.2.1, bt171.2.2.2.2.1, bt171.2.2.2.2.2.1, bt171.2.2.2.2.2.2))) else (none)) else (if a0_0 = 1 then (pred_normal.j0 k a1 a0_0 (a0_0 == 1) a0_0 a0_1 a0_2 a0_3 a0_4 l0_5 l0_6) else (pred_normal.j0 k a1 a0_0 (a0_0 == 2) a0_0 a0_1 a0_2 a0_3 a0_4 l0_5 l0_6))) = some (r1, r2, r3, r4, r5, r6, r7) := h
 clear h
 have HC3 := Aside0.mk H
 clear H
 go_enter Try.func28, Try.ntmps28
 go_upto_block 0 with (first | ((with_reducible refine gate_dst (N := 2) rfl ?_); refine box_event ?hg (N := 2) ?hd (cs := #[.int .i64 a0_0, .string a0_1, .int .i64 a0_2, .int .i64 a0_3, .string a0_4, .slice A0_5 l0_5.length c0_5, .slice A0_6 l0_6.length c0_6]) (t := 25) ?hr ?_; (case hd => rfl); (case hg => rfl); (case hr => first | (go_simp; done) | (go_simp; rfl)); intro gb168 hg w4 hbox hb; have n0_ := Aside0.mk (below_step (mB HB.out) hb); have n1_ := Aside0.mk (hbox); have n2_ := Aside0.mk ((by rw [hg]; exact (below_size (mB HB.out)) : w.heap.size ≤ gb168)); have n3_ := n2_; clear HB; have HB := n0_; have BK168 := n1_; have GW168 := n2_; have GE168 := n3_; clear n0_ n1_ n2_ n3_; clear hb hbox hg) | ((with_reducible refine gate_dst (N := 4) rfl ?_); refine box_event ?hg (N := 4) ?hd (cs := #[.int .i64 0, .string (⟨#[]⟩ : ByteArray), .int .i64 0, .int .i64 0, .string (⟨#[]⟩ : ByteArray), .slice none 0 0, .slice none 0 0]) (t := 25) ?hr ?_; (case hd => rfl); (case hg => rfl); (case hr => first | (go_simp; done) | (go_simp; rfl)); intro gb169 hg w5 hbox hb; have n0_ := Aside0.mk (blk_below (mK BK168.out) hb); have n1_ := Aside0.mk (below_step mZ hb); have n2_ := Aside0.mk (hbox); have n3_ := Aside0.mk ((by rw [hg]; exact (below_size mZ) : w.heap.size ≤ gb169)); have n4_ := n3_; have n5_ := Aside0.mk ((by rw [hg]; exact Nat.ne_of_lt (blk_lt (mK BK168.out)) : gb168 ≠ gb169)); have n6_ := Aside0.mk ((by rw [hg]; exact Nat.ne_of_gt (blk_lt (mK BK168.out)) : gb169 ≠ gb168)); clear BK168; clear HB; have BK168 := n0_; have HB := n1_; have BK169 := n2_; have GW169 := n3_; have GE169 := n4_; have NB168_169 := n5_; have NB169_168 := n6_; clear n0_ n1_ n2_ n3_ n4_ n5_ n6_; clear hb hbox hg; have hnb6 := NB168_169.out; have hnc6 := NB169_168.out; obtain ⟨hcz7_0, hcz7_1, hcz7_2, hcz7_3, hcz7_4, hcz7_5, hcz7_6, hfz7_0, hfz7_1, hfz7_2, hfz7_3, hfz7_4, hfz7_5, hfz7_6⟩ := cells_7 BK168.out))
 (try simp only [Act.put, List.setIfInBounds_toArray, List.set_cons_zero, List.set_cons_succ])
 go_cut [5] (fun v5 wc => ∃ (kq : Nat) (x5_2 : Int) (x170000_2 : Int) (x170001_2 : ByteArray) (x170002_2 : Int) (x170003_2 : Int) (x170004_2 : ByteArray), v5 = .int .i64 x5_2 ∧ Aside0 (pred_normal.j1 kq a1 x5_2 a0_0 a0_1 a0_2 a0_3 a0_4 l0_5 l0_6 = some (r1, r2, r3, r4, r5, r6, r7)) ∧ Aside0 (kq ≤ k) ∧ Aside0 (wc.heap[gb168]? = some (.cells #[.int .i64 a0_0, .string a0_1, .int .i64 a0_2, .int .i64 a0_3, .string a0_4, (.slice A0_5 l0_5.length c0_5), (.slice A0_6 l0_6.length c0_6)] 25 (0, 0))) ∧ Aside0 (wc.heap[gb169]? = some (.cells #[.int .i64 x170000_2, .string x170001_2, .int .i64 x170002_2, .int .i64 x170003_2, .string x170004_2, (.slice none 0 0), (.slice none 0 0)] 25 (0, 0))) ∧ Aside0 (Below w.heap.size w wc))
 case first =>
  have H := HC3.out
  clear HC3
  by_cases c8 : a0_0 = 3
  ·rw [if_pos c8] at H
   have c8b0 : (a0_0 == 3) = true := beq_iff_eq.mpr c8
   have c8b1 : (a0_0 != 3) = false := bne_eq_false_iff_eq.mpr c8
   clear c8
   (first | rw [c8b0] | rw [c8b1] | (simp only [i64_w, i32_w]; rw [c8b0]) | skip)
   by_cases c9 : 0 < (l0_6.length : Int)
   ·rw [if_pos c9] at H
    have c9b0 : decide (0 < (l0_6.length : Int)) = true := decide_eq_true c9
    have c9b1 : decide (0 < l0_6.length) = true := decide_eq_true (by omega)
    clear c9
    replace H := Option.bind_eq_some_iff.mp H
    obtain ⟨⟨t171, t172, t173, t174, t175, t176, t179⟩, A100, H⟩ := H
    replace H : (some (t171, t172, t173, t174, t175, t176, t179)) = some (r1, r2, r3, r4, r5, r6, r7) := H
    have A10 := Aside0.mk A100
    clear A100
    simp only [Option.some.injEq, Prod.mk.injEq] at H
    obtain ⟨rfl, rfl, rfl, rfl, rfl, rfl, rfl⟩ := H
    have hnb11 := NB168_169.out
    have hnc11 := NB169_168.out
    obtain ⟨hcz12_0, hcz12_1, hcz12_2, hcz12_3, hcz12_4, hcz12_5, hcz12_6, hfz12_0, hfz12_1, hfz12_2, hfz12_3, hfz12_4, hfz12_5, hfz12_6⟩ := cells_7 BK168.out
    have p170 : 0 ≤ (0 : Int) := (by omega)
    have q170 : 0 < (l0_6.length : Int) := of_decide_eq_true (by first | (with_reducible assumption) | assumption)
    obtain ⟨ad170, A170_5, c170_5, A170_6, c170_6, e170, hx170_0, hx170_1, hx170_2, hx170_3, hx170_4, hx170_5, hx170_6, hl170_5, hi170_5, hl170_6, hi170_6⟩ := at_T25 HR0_6.out 0 p170 q170
    cases e170
    have qi170 : (0 < l0_6.length) = True := eq_true (by omega)
    (try rw [show ((0 : Int)).toNat = 0 from rfl] at hx170_0)
    (try rw [show 0 * 7 = 0 from rfl] at hx170_0)
    (try rw [Addr.add_zero'] at hx170_0)
    (try rw [show ((0 : Int)).toNat = 0 from rfl] at hx170_1)
    (try rw [show 0 * 7 = 0 from rfl] at hx170_1)
    (try rw [Addr.add_zero'] at hx170_1)
    (try rw [show ((0 : Int)).toNat = 0 from rfl] at hx170_2)
    (try rw [show 0 * 7 = 0 from rfl] at hx170_2)
    (try rw [Addr.add_zero'] at hx170_2)
    (try rw [show ((0 : Int)).toNat = 0 from rfl] at hx170_3)
    (try rw [show 0 * 7 = 0 from rfl] at hx170_3)
    (try rw [Addr.add_zero'] at hx170_3)
    (try rw [show ((0 : Int)).toNat = 0 from rfl] at hx170_4)
    (try rw [show 0 * 7 = 0 from rfl] at hx170_4)
    (try rw [Addr.add_zero'] at hx170_4)
    (try rw [show ((0 : Int)).toNat = 0 from rfl] at hx170_5)
    (try rw [show 0 * 7 = 0 from rfl] at hx170_5)
    (try rw [Addr.add_zero'] at hx170_5)
    (try rw [show ((0 : Int)).toNat = 0 from rfl] at hx170_6)
    (try rw [show 0 * 7 = 0 from rfl] at hx170_6)
    (try rw [Addr.add_zero'] at hx170_6)
    replace hx170_0 := (HB.out.cell (World.block_lt_of_cell? w _ hx170_0)).trans hx170_0
    replace hx170_1 := (HB.out.cell (World.block_lt_of_cell? w _ hx170_1)).trans hx170_1
    replace hx170_2 := (HB.out.cell (World.block_lt_of_cell? w _ hx170_2)).trans hx170_2
    replace hx170_3 := (HB.out.cell (World.block_lt_of_cell? w _ hx170_3)).trans hx170_3
    replace hx170_4 := (HB.out.cell (World.block_lt_of_cell? w _ hx170_4)).trans hx170_4
    replace hx170_5 := (HB.out.cell (World.block_lt_of_cell? w _ hx170_5)).trans hx170_5
    replace hx170_6 := (HB.out.cell (World.block_lt_of_cell? w _ hx170_6)).trans hx170_6
    have HR170_5 := Aside0.mk hi170_5
    have HC170_5 := Aside0.mk hl170_5
    clear hi170_5 hl170_5
    have HR170_6 := Aside0.mk hi170_6
    have HC170_6 := Aside0.mk hl170_6
    clear hi170_6 hl170_6
    replace p170 := eq_true p170
    replace q170 := eq_true q170
    go_wp2_with (first | ((with_reducible refine gate_callee (f := 28) rfl ?_); refine goesL_ (some 28) rfl rfl Try.func28 (by kernel_rfl) rfl #[.agg #[.int .i64 ((rd_T25 l0_6 0).f0), .string ((rd_T25 l0_6 0).f1), .int .i64 ((rd_T25 l0_6 0).f2), .int .i64 ((rd_T25 l0_6 0).f3), .string ((rd_T25 l0_6 0).f4), .slice A170_5 ((rd_T25 l0_6 0).f5).length c170_5, .slice A170_6 ((rd_T25 l0_6 0).f6).length c170_6], .bool (!a1)] rfl (by (try simp only [List.map_toArray, List.map_cons, List.map_nil]); first | done | rfl | (simp only [List.length_drop, List.length_take]; rfl)) ?_; (with_reducible refine (ih k (by omega) ((rd_T25 l0_6 0).f0) ((rd_T25 l0_6 0).f1) ((rd_T25 l0_6 0).f2) ((rd_T25 l0_6 0).f3) ((rd_T25 l0_6 0).f4) _ _ ((rd_T25 l0_6 0).f5) _ _ ((rd_T25 l0_6 0).f6) (!a1) t171 t172 t173 t174 t175 t176 t179 _ ?side1 ?side2 ?side3 ?side4 A10.out).mono ?_); (case side1 => repeat (first | exact (Kd.C_below HR170_5.out HB.out) | (with_reducible refine Kd.C_alloc ?_ _) | (with_reducible refine Kd.C_drewN ?_ _) | (with_reducible refine Kd.C_drew ?_))); (case side2 => first | exact HC170_5.out | exact Kd.V_mono HC170_5.out (fun k_ hk_ => by grind)); (case side3 => repeat (first | exact (Kd.C_below HR170_6.out HB.out) | (with_reducible refine Kd.C_alloc ?_ _) | (with_reducible refine Kd.C_drewN ?_ _) | (with_reducible refine Kd.C_drew ?_))); (case side4 => first | exact HC170_6.out | exact Kd.V_mono HC170_6.out (fun k_ hk_ => by grind)); rintro e w13 ⟨v177, v180, rfl, ho0, ho1, hb⟩; refine ⟨_, rfl, ?_⟩; have n0_ := Aside0.mk (Kd.V_lower (Kd.V_mono (ok' := fun k_ => (w.heap.size ≤ k_) ∧ k_ ≠ gb168 ∧ k_ ≠ gb169) ho0 (fun k_ hk_ => ⟨(Nat.le_trans (below_size mZ) hk_), (Kd.freshB (mK BK168.out) k_ hk_), (Kd.freshB (mK BK169.out) k_ hk_)⟩)) (below_size mZ)); have n1_ := Aside0.mk (Kd.V_lower (Kd.V_mono (ok' := fun k_ => (w.heap.size ≤ k_) ∧ k_ ≠ gb168 ∧ k_ ≠ gb169) ho1 (fun k_ hk_ => ⟨(Nat.le_trans (below_size mZ) hk_), (Kd.freshB (mK BK168.out) k_ hk_), (Kd.freshB (mK BK169.out) k_ hk_)⟩)) (below_size mZ)); have n2_ := Aside0.mk (blk_below (mK BK168.out) hb); have n3_ := Aside0.mk (blk_below (mK BK169.out) hb); have n4_ := Aside0.mk (below_step mZ hb); clear BK168; clear BK169; clear HB; have HO178 := n0_; have HO181 := n1_; have BK168 := n2_; have BK169 := n3_; have HB := n4_; clear n0_ n1_ n2_ n3_ n4_; (try clear hb); (try clear hb2); (try clear hk); (try clear hi); (try clear ho0); (try clear ho1); obtain ⟨hcz14_0, hcz14_1, hcz14_2, hcz14_3, hcz14_4, hcz14_5, hcz14_6, hfz14_0, hfz14_1, hfz14_2, hfz14_3, hfz14_4, hfz14_5, hfz14_6⟩ := cells_7 BK169.out; obtain ⟨Ao15, co15, eo15⟩ := Kd.V_slice HO178.out; subst eo15; obtain ⟨Ao16, co16, eo16⟩ := Kd.V_slice HO181.out; subst eo16))
    refine bodyPost_ret (results_cell_row rfl _ _ gb169 25 #[.int .i64 t171, .string t172, .int .i64 t173, .int .i64 t174, .string t175, .slice Ao15 t176.length co15, .slice Ao16 t179.length co16] (0, 0) _ rfl (by (with_reducible repeat (first | refine blk_drewN ?_ _ | refine blk_drew ?_ | refine blk_alloc ?_ _)); apply puts_7; (with_reducible repeat (first | refine blk_drewN ?_ _ | refine blk_drew ?_ | refine blk_alloc ?_ _)); exact BK169.out) Try.underlying25 rfl (by kernel_rfl)) rfl ?_
    exact ⟨_, _, by first | rfl | (simp [errW_none, errW_some] <;> rfl) | (simp [*, errW_none, errW_some] <;> rfl), by (with_reducible repeat (first | apply Kd.V_alloc | apply Kd.V_drewN | apply Kd.V_drew)); exact Kd.V_mono (Kd.V_far (p := ⟨gb169, 6, none⟩) (Kd.V_far (p := ⟨gb169, 5, none⟩) (Kd.V_far (p := ⟨gb169, 4, none⟩) (Kd.V_far (p := ⟨gb169, 3, none⟩) (Kd.V_far (p := ⟨gb169, 2, none⟩) (Kd.V_far (p := ⟨gb169, 1, none⟩) (Kd.V_far (p := ⟨gb169, 0, none⟩) (Kd.V_mono HO178.out (fun k_ hk => (⟨hk, hk.2.2⟩ : _ ∧ k_ ≠ gb169))) (fun _ hk => hk.2) (.int .i64 t171)) (fun _ hk => hk.2) (.string t172)) (fun _ hk => hk.2) (.int .i64 t173)) (fun _ hk => hk.2) (.int .i64 t174)) (fun _ hk => hk.2) (.string t175)) (fun _ hk => hk.2) (.slice Ao15 t176.length co15)) (fun _ hk => hk.2) (.slice Ao16 t179.length co16)) (fun _ hk => hk.1.1), by (with_reducible repeat (first | apply Kd.V_alloc | apply Kd.V_drewN | apply Kd.V_drew)); exact Kd.V_mono (Kd.V_far (p := ⟨gb169, 6, none⟩) (Kd.V_far (p := ⟨gb169, 5, none⟩) (Kd.V_far (p := ⟨gb169, 4, none⟩) (Kd.V_far (p := ⟨gb169, 3, none⟩) (Kd.V_far (p := ⟨gb169, 2, none⟩) (Kd.V_far (p := ⟨gb169, 1, none⟩) (Kd.V_far (p := ⟨gb169, 0, none⟩) (Kd.V_mono HO181.out (fun k_ hk => (⟨hk, hk.2.2⟩ : _ ∧ k_ ≠ gb169))) (fun _ hk => hk.2) (.int .i64 t171)) (fun _ hk => hk.2) (.string t172)) (fun _ hk => hk.2) (.int .i64 t173)) (fun _ hk => hk.2) (.int .i64 t174)) (fun _ hk => hk.2) (.string t175)) (fun _ hk => hk.2) (.slice Ao15 t176.length co15)) (fun _ hk => hk.2) (.slice Ao16 t179.length co16)) (fun _ hk => hk.1.1), mZ⟩
   ·rw [if_neg c9] at H
    exact absurd H (by simp)
  ·rw [if_neg c8] at H
   have c8b0 : (a0_0 == 3) = false := beq_eq_false_iff_ne.mpr c8
   have c8b1 : (a0_0 != 3) = true := bne_iff_ne.mpr c8
   (first | rw [c8b0] | rw [c8b1] | (simp only [i64_w, i32_w]; rw [c8b0]) | skip)
   have HC17 := Aside0.mk H
   clear H
   go_upto_if 29 with (fail)
   go_cut [29] (fun v29 wc => ∃ (kq : Nat) (x29_16 : Bool), v29 = .bool x29_16 ∧ Aside0 (pred_normal.j0 kq a1 a0_0 x29_16 a0_0 a0_1 a0_2 a0_3 a0_4 l0_5 l0_6 = some (r1, r2, r3, r4, r5, r6, r7)) ∧ Aside0 (kq ≤ k) ∧ Aside0 (wc.heap[gb168]? = some (.cells #[.int .i64 a0_0, .string a0_1, .int .i64 a0_2, .int .i64 a0_3, .string a0_4, (.slice A0_5 l0_5.length c0_5), (.slice A0_6 l0_6.length c0_6)] 25 (0, 0))) ∧ Aside0 (wc.heap[gb169]? = some (.cells #[.int .i64 0, .string (⟨#[]⟩ : ByteArray), .int .i64 0, .int .i64 0, .string (⟨#[]⟩ : ByteArray), (.slice none 0 0), (.slice none 0 0)] 25 (0, 0))) ∧ Aside0 (Below w.heap.size w wc))
   case first =>
    have H := HC17.out
    clear HC17
    by_cases c18 : a0_0 = 1
    ·rw [if_pos c18] at H
     have c18b0 : (a0_0 == 1) = true := beq_iff_eq.mpr c18
     have c18b1 : (a0_0 != 1) = false := bne_eq_false_iff_eq.mpr c18
     clear c18
     (first | rw [c18b0] | rw [c18b1] | (simp only [i64_w, i32_w]; rw [c18b0]) | skip)
     have H' := Aside0.mk H
     clear H
     go_wp2
     go_meet
     case rel => exact ⟨_, ((a0_0 == 1)), (by first | rfl | (simp; done) | (simp [*]; done)), H', ⟨by first | omega | exact Nat.le_refl _⟩, ⟨mK BK168.out⟩, ⟨mK BK169.out⟩, ⟨mZ⟩⟩
    ·rw [if_neg c18] at H
     have c18b0 : (a0_0 == 1) = false := beq_eq_false_iff_ne.mpr c18
     have c18b1 : (a0_0 != 1) = true := bne_iff_ne.mpr c18
     (first | rw [c18b0] | rw [c18b1] | (simp only [i64_w, i32_w]; rw [c18b0]) | skip)
     have H' := Aside0.mk H
     clear H
     go_wp2
     go_meet
     case rel => exact ⟨_, ((a0_0 == 2)), (by first | rfl | (simp; done) | (simp [*]; done)), H', ⟨by first | omega | exact Nat.le_refl _⟩, ⟨mK BK168.out⟩, ⟨mK BK169.out⟩, ⟨mZ⟩⟩
   case rest =>
    clear HC17
    try clear c8
    try clear c8b0
    try clear c8b1
    try clear c9
    try clear c9b0
    try clear c9b1
    try clear c18
    try clear c18b0
    try clear c18b1
    try clear hcz12_0
    try clear hcz12_1
    try clear hcz12_2
    try clear hcz12_3
    try clear hcz12_4
    try clear hcz12_5
    try clear hcz12_6
    try clear hcz14_0
    try clear hcz14_1
    try clear hcz14_2
    try clear hcz14_3
    try clear hcz14_4
    try clear hcz14_5
    try clear hcz14_6
    try clear hcz7_0
    try clear hcz7_1
    try clear hcz7_2
    try clear hcz7_3
    try clear hcz7_4
    try clear hcz7_5
    try clear hcz7_6
    try clear hfz12_0
    try clear hfz12_1
    try clear hfz12_2
    try clear hfz12_3
    try clear hfz12_4
    try clear hfz12_5
    try clear hfz12_6
    try clear hfz14_0
    try clear hfz14_1
    try clear hfz14_2
    try clear hfz14_3
    try clear hfz14_4
    try clear hfz14_5
    try clear hfz14_6
    try clear hfz7_0
    try clear hfz7_1
    try clear hfz7_2
    try clear hfz7_3
    try clear hfz7_4
    try clear hfz7_5
    try clear hfz7_6
    try clear hx170_0
    try clear hx170_1
    try clear hx170_2
    try clear hx170_3
    try clear hx170_4
    try clear hx170_5
    try clear hx170_6
    try clear p170
    try clear q170
    obtain ⟨kq, x29_16, rfl, HA, HJ16, BK168, BK169, HB⟩ := hcut
    cases kq with
    | zero => exact absurd HA.out (by simp [pred_normal.j0])
    | succ kj16 =>
     have H := HA.out
     clear HA
     simp only [pred_normal.j0] at H
     by_cases c19 : x29_16 = true
     ·subst c19
      have H1 : (if a1 = true then (pred_normal.j1 kj16 a1 (wrap64 (3 - a0_0)) a0_0 a0_1 a0_2 a0_3 a0_4 l0_5 l0_6) else (pred_normal.j1 kj16 a1 a0_0 a0_0 a0_1 a0_2 a0_3 a0_4 l0_5 l0_6)) = some (r1, r2, r3, r4, r5, r6, r7) := by rw [if_pos rfl] at H; exact H
      clear H
      have H := H1
      clear H1
      by_cases c20 : a1 = true
      ·subst c20
       have H1 : (pred_normal.j1 kj16 true (wrap64 (3 - a0_0)) a0_0 a0_1 a0_2 a0_3 a0_4 l0_5 l0_6) = some (r1, r2, r3, r4, r5, r6, r7) := by rw [if_pos rfl] at H; exact H
       clear H
       have H := H1
       clear H1
       have H' := Aside0.mk H
       clear H
       go_wp2
       go_meet
       case rel => exact ⟨_, (wrap64 (3 - a0_0)), (0), ((⟨#[]⟩ : ByteArray)), (0), (0), ((⟨#[]⟩ : ByteArray)), (by first | rfl | (simp; done) | (simp [*]; done)), H', ⟨by have := HJ16.out; first | omega | exact Nat.le_refl _⟩, ⟨mK BK168.out⟩, ⟨mK BK169.out⟩, ⟨mZ⟩⟩
      ·replace c20 := Bool.eq_false_iff.mpr c20
       subst c20
       have H1 : (pred_normal.j1 kj16 false a0_0 a0_0 a0_1 a0_2 a0_3 a0_4 l0_5 l0_6) = some (r1, r2, r3, r4, r5, r6, r7) := by rw [if_neg (show ¬ (false = true) by decide)] at H; exact H
       clear H
       have H := H1
       clear H1
       have H' := Aside0.mk H
       clear H
       go_wp2
       go_meet
       case rel => exact ⟨_, (a0_0), (0), ((⟨#[]⟩ : ByteArray)), (0), (0), ((⟨#[]⟩ : ByteArray)), (by first | rfl | (simp; done) | (simp [*]; done)), H', ⟨by have := HJ16.out; first | omega | exact Nat.le_refl _⟩, ⟨mK BK168.out⟩, ⟨mK BK169.out⟩, ⟨mZ⟩⟩
     ·replace c19 := Bool.eq_false_iff.mpr c19
      subst c19
      have H1 : (if a1 = true then ((pred_Copy.f kj16 a0_0 a0_1 a0_2 a0_3 a0_4 l0_5 l0_6).bind fun bt182 => (some (3, (⟨#[]⟩ : ByteArray), 0, 0, (⟨#[]⟩ : ByteArray), ([] : List ByteArray), (([(⟨bt182.1, bt182.2.1, bt182.2.2.1, bt182.2.2.2.1, bt182.2.2.2.2.1, bt182.2.2.2.2.2.1, bt182.2.2.2.2.2.2⟩ : S25)] : List (S25)))))) else ((pred_Copy.f kj16 a0_0 a0_1 a0_2 a0_3 a0_4 l0_5 l0_6).bind fun bt196 => (some (bt196.1, bt196.2.1, bt196.2.2.1, bt196.2.2.2.1, bt196.2.2.2.2.1, bt196.2.2.2.2.2.1, bt196.2.2.2.2.2.2)))) = some (r1, r2, r3, r4, r5, r6, r7) := by rw [if_neg (show ¬ (false = true) by decide)] at H; exact H
      clear H
      have H := H1
      clear H1
      by_cases c21 : a1 = true
      ·subst c21
       have H1 : ((pred_Copy.f kj16 a0_0 a0_1 a0_2 a0_3 a0_4 l0_5 l0_6).bind fun bt182 => (some (3, (⟨#[]⟩ : ByteArray), 0, 0, (⟨#[]⟩ : ByteArray), ([] : List ByteArray), (([(⟨bt182.1, bt182.2.1, bt182.2.2.1, bt182.2.2.2.1, bt182.2.2.2.2.1, bt182.2.2.2.2.2.1, bt182.2.2.2.2.2.2⟩ : S25)] : List (S25)))))) = some (r1, r2, r3, r4, r5, r6, r7) := by rw [if_pos rfl] at H; exact H
       clear H
       have H := H1
       clear H1
       replace H := Option.bind_eq_some_iff.mp H
       obtain ⟨⟨t182, t183, t184, t185, t186, t187, t190⟩, A220, H⟩ := H
       replace H : (some (3, (⟨#[]⟩ : ByteArray), 0, 0, (⟨#[]⟩ : ByteArray), ([] : List ByteArray), (([(⟨t182, t183, t184, t185, t186, t187, t190⟩ : S25)] : List (S25))))) = some (r1, r2, r3, r4, r5, r6, r7) := H
       have A22 := Aside0.mk A220
       clear A220
       obtain ⟨y193, hy193⟩ : ∃ y_ : List (S25), y_ = (([(⟨t182, t183, t184, t185, t186, t187, t190⟩ : S25)] : List (S25))) := ⟨_, rfl⟩
       replace H : (some (3, (⟨#[]⟩ : ByteArray), 0, 0, (⟨#[]⟩ : ByteArray), ([] : List ByteArray), y193)) = some (r1, r2, r3, r4, r5, r6, r7) := by first | (rw [hy193]; with_reducible exact H) | (have H2_ := (Option.bind_some _ _).symm.trans H; rw [hy193]; with_reducible exact H2_) | (have H2_ := (Option.bind_some _ _).symm.trans H; with_reducible exact H2_) | with_reducible exact H | (rw [hy193]; exact H) | exact H
       have Ny193 := Aside0.mk hy193
       clear hy193
       simp only [Option.some.injEq, Prod.mk.injEq] at H
       obtain ⟨rfl, rfl, rfl, rfl, rfl, rfl, rfl⟩ := H
       have hnb23 := NB168_169.out
       have hnc23 := NB169_168.out
       obtain ⟨hcz24_0, hcz24_1, hcz24_2, hcz24_3, hcz24_4, hcz24_5, hcz24_6, hfz24_0, hfz24_1, hfz24_2, hfz24_3, hfz24_4, hfz24_5, hfz24_6⟩ := cells_7 BK168.out
       go_wp2_with (first | ((with_reducible refine gate_callee (f := 27) rfl ?_); refine goesL_ (some 15) rfl rfl Try.func27 (by kernel_rfl) rfl #[.agg #[.int .i64 a0_0, .string a0_1, .int .i64 a0_2, .int .i64 a0_3, .string a0_4, .slice A0_5 l0_5.length c0_5, .slice A0_6 l0_6.length c0_6]] rfl (by (try simp only [List.map_toArray, List.map_cons, List.map_nil]); first | done | rfl | (simp only [List.length_drop, List.length_take]; rfl)) ?_; (with_reducible refine (pred_Copy.calls kj16 a0_0 a0_1 a0_2 a0_3 a0_4 _ _ l0_5 _ _ l0_6 t182 t183 t184 t185 t186 t187 t190 _ ?side1 ?side2 ?side3 ?side4 A22.out).mono ?_); (case side1 => repeat (first | exact (Kd.C_below HR0_5.out HB.out) | (with_reducible refine Kd.C_alloc ?_ _) | (with_reducible refine Kd.C_drewN ?_ _) | (with_reducible refine Kd.C_drew ?_))); (case side2 => first | exact HC0_5.out | exact Kd.V_mono HC0_5.out (fun k_ hk_ => by grind)); (case side3 => repeat (first | exact (Kd.C_below HR0_6.out HB.out) | (with_reducible refine Kd.C_alloc ?_ _) | (with_reducible refine Kd.C_drewN ?_ _) | (with_reducible refine Kd.C_drew ?_))); (case side4 => first | exact HC0_6.out | exact Kd.V_mono HC0_6.out (fun k_ hk_ => by grind)); rintro e w25 ⟨v188, v191, rfl, ho0, ho1, hb⟩; refine ⟨_, rfl, ?_⟩; (try replace ho1 := Kd.S_N ho1); have n0_ := Aside0.mk (Kd.R_lower (Kd.R_newM (M := fun k_ => (w.heap.size ≤ k_)) ho0 (below_size mZ) (fun k_ h_ => h_)) (below_size mZ)); have n1_ := Aside0.mk (Kd.N_lower (Kd.N_mono (ok' := fun k_ => (w.heap.size ≤ k_) ∧ some k_ ≠ (v188 : Value).ownBlock ∧ k_ ≠ gb168 ∧ k_ ≠ gb169) (Kd.R_N (Kd.R_bound ho1)) (fun k_ hk_ => ⟨(Nat.le_trans (below_size mZ) hk_.2.1), hk_.1, (Kd.freshB (mK BK168.out) k_ hk_.2.1), (Kd.freshB (mK BK169.out) k_ hk_.2.1)⟩)) (below_size mZ)); have n2_ := Aside0.mk (blk_below (mK BK168.out) hb); have n3_ := Aside0.mk (blk_below (mK BK169.out) hb); have n4_ := Aside0.mk (below_step mZ hb); clear BK168; clear BK169; clear HB; have HO189 := n0_; have HO192 := n1_; have BK168 := n2_; have BK169 := n3_; have HB := n4_; clear n0_ n1_ n2_ n3_ n4_; (try clear hb); (try clear hb2); (try clear hk); (try clear hi); (try clear ho0); (try clear ho1); obtain ⟨Ao26, co26, eo26⟩ := Kd.R_slice HO189.out; subst eo26; obtain ⟨Ao27, co27, eo27⟩ := Kd.N_slice HO192.out; subst eo27) | ((with_reducible refine gate_dst (N := 16) rfl ?_); refine Kd.N_lit k25 _ 25 ?hg (N' := 16) ?hd (xs := ([(⟨t182, t183, t184, t185, t186, t187, t190⟩ : S25)] : List (S25))) (inner := [.int .i64 t182, .string t183, .int .i64 t184, .int .i64 t185, .string t186, .slice Ao26 t187.length co26, .slice Ao27 t190.length co27]) (ok := (fun k_ => (w.heap.size ≤ k_) ∧ k_ ≠ gb168 ∧ k_ ≠ gb169)) (okp := (fun k_ => (w.heap.size ≤ k_) ∧ k_ ≠ gb168 ∧ k_ ≠ gb169)) ?hr ?hp (fun _ hk => hk) ((show ∀ k_, w25.heap.size ≤ k_ → (fun k_ => (w.heap.size ≤ k_) ∧ k_ ≠ gb168 ∧ k_ ≠ gb169) k_ from fun k_ hk => ⟨(Nat.le_trans (below_size mZ) hk), Kd.freshB (mK BK168.out) k_ hk, Kd.freshB (mK BK169.out) k_ hk⟩) _ (Nat.le_refl _)) (Below.refl _ _) (Nat.le_refl _) (by simp) ?_; (case hd => rfl); (case hg => rfl); (case hr => first | (go_simp; done) | (go_simp; rfl)); (case hp => exact (Reps.c7 (show Kd.FK k25 _ _ (⟨t182, t183, t184, t185, t186, t187, t190⟩ : S25) [.int .i64 t182, .string t183, .int .i64 t184, .int .i64 t185, .string t186, .slice Ao26 t187.length co26, .slice Ao27 t190.length co27] from (k25_mkF _ _ (⟨t182, t183, t184, t185, t186, t187, t190⟩ : S25) (Kd.R_reads' (Kd.R_mono (ok' := (fun k_ => (w.heap.size ≤ k_) ∧ k_ ≠ gb168 ∧ k_ ≠ gb169)) (Kd.R_types (Kd.R_types (HO189.out) BK168.out (by decide)) BK169.out (by decide)) (fun k_ hk => ⟨hk.1.1.1, ⟨hk.1.2, hk.2⟩⟩))).2.1 (Kd.R_F (by (with_reducible repeat (first | apply Kd.R_alloc | apply Kd.R_drewN | apply Kd.R_drew)); exact (Kd.R_mono (ok' := (fun k_ => (w.heap.size ≤ k_) ∧ k_ ≠ gb168 ∧ k_ ≠ gb169)) (Kd.R_types (Kd.R_types (HO189.out) BK168.out (by decide)) BK169.out (by decide)) (fun k_ hk => ⟨hk.1.1.1, ⟨hk.1.2, hk.2⟩⟩)))) (Kd.N_reads' (Kd.N_mono (ok' := (fun k_ => (w.heap.size ≤ k_) ∧ k_ ≠ gb168 ∧ k_ ≠ gb169)) (HO192.out) (fun k_ hk => ⟨hk.1, ⟨hk.2.2.1, hk.2.2.2⟩⟩))).2.1 (Kd.N_F (by (with_reducible repeat (first | apply Kd.N_alloc | apply Kd.N_drewN | apply Kd.N_drew)); exact (Kd.N_mono (ok' := (fun k_ => (w.heap.size ≤ k_) ∧ k_ ≠ gb168 ∧ k_ ≠ gb169)) (HO192.out) (fun k_ hk => ⟨hk.1, ⟨hk.2.2.1, hk.2.2.2⟩⟩)))))) (Reps.none _ _))); intro v194 w28 ho29 hb hg_ hnew_; clear hg_ hnew_; (first | rw [← Ny193.out] at ho29 | (simp only [Int.reduceToNat] at ho29; rw [← Ny193.out] at ho29)); have n0_ := Aside0.mk (Kd.N_lower ho29 (below_size mZ)); have n1_ := Aside0.mk (blk_below (mK BK168.out) hb); have n2_ := Aside0.mk (blk_below (mK BK169.out) hb); have n3_ := Aside0.mk (below_step mZ hb); clear BK168; clear BK169; clear HB; clear HO189; clear HO192; have HO195 := n0_; have BK168 := n1_; have BK169 := n2_; have HB := n3_; clear n0_ n1_ n2_ n3_; clear hb ho29; obtain ⟨Ao30, co30, eo30⟩ := Kd.N_slice HO195.out; subst eo30; obtain ⟨hcz31_0, hcz31_1, hcz31_2, hcz31_3, hcz31_4, hcz31_5, hcz31_6, hfz31_0, hfz31_1, hfz31_2, hfz31_3, hfz31_4, hfz31_5, hfz31_6⟩ := cells_7 BK169.out))
       refine bodyPost_ret (results_cell_row rfl _ _ gb169 25 #[.int .i64 3, .string (⟨#[]⟩ : ByteArray), .int .i64 0, .int .i64 0, .string (⟨#[]⟩ : ByteArray), .slice none 0 0, .slice Ao30 y193.length co30] (0, 0) _ rfl (by (with_reducible repeat (first | refine blk_drewN ?_ _ | refine blk_drew ?_ | refine blk_alloc ?_ _)); apply puts_7; (with_reducible repeat (first | refine blk_drewN ?_ _ | refine blk_drew ?_ | refine blk_alloc ?_ _)); exact BK169.out) Try.underlying25 rfl (by kernel_rfl)) rfl ?_
       exact ⟨_, _, by first | rfl | (simp [errW_none, errW_some] <;> rfl) | (simp [*, errW_none, errW_some] <;> rfl), by first | exact Kd.V_nil _ _ _ _ _ | (exact (by first | exact Kd.R_nil _ _ _ _ _ | exact Kd.N_nil _ _ _ _ _ | exact Kd.V_nil _ _ _ _ _ | exact Kd.Q_nil _ _ _ _ _ | exact Kd.S_nil _ _ _ _ _)), Kd.N_V (by (with_reducible repeat (first | apply Kd.N_alloc | apply Kd.N_drewN | apply Kd.N_drew)); exact Kd.N_mono (Kd.N_far (p := ⟨gb169, 6, none⟩) (Kd.N_far (p := ⟨gb169, 5, none⟩) (Kd.N_far (p := ⟨gb169, 4, none⟩) (Kd.N_far (p := ⟨gb169, 3, none⟩) (Kd.N_far (p := ⟨gb169, 2, none⟩) (Kd.N_far (p := ⟨gb169, 1, none⟩) (Kd.N_far (p := ⟨gb169, 0, none⟩) (Kd.N_mono HO195.out (fun k_ hk => (⟨hk, hk.2.2⟩ : _ ∧ k_ ≠ gb169))) (fun _ hk => hk.2) (.int .i64 3)) (fun _ hk => hk.2) (.string (⟨#[]⟩ : ByteArray))) (fun _ hk => hk.2) (.int .i64 0)) (fun _ hk => hk.2) (.int .i64 0)) (fun _ hk => hk.2) (.string (⟨#[]⟩ : ByteArray))) (fun _ hk => hk.2) (.slice none 0 0)) (fun _ hk => hk.2) (.slice Ao30 y193.length co30)) (fun _ hk => hk.1.1)), mZ⟩
      ·replace c21 := Bool.eq_false_iff.mpr c21
       subst c21
       have H1 : ((pred_Copy.f kj16 a0_0 a0_1 a0_2 a0_3 a0_4 l0_5 l0_6).bind fun bt196 => (some (bt196.1, bt196.2.1, bt196.2.2.1, bt196.2.2.2.1, bt196.2.2.2.2.1, bt196.2.2.2.2.2.1, bt196.2.2.2.2.2.2))) = some (r1, r2, r3, r4, r5, r6, r7) := by rw [if_neg (show ¬ (false = true) by decide)] at H; exact H
       clear H
       have H := H1
       clear H1
       replace H := Option.bind_eq_some_iff.mp H
       obtain ⟨⟨t196, t197, t198, t199, t200, t201, t204⟩, A320, H⟩ := H
       replace H : (some (t196, t197, t198, t199, t200, t201, t204)) = some (r1, r2, r3, r4, r5, r6, r7) := H
       have A32 := Aside0.mk A320
       clear A320
       simp only [Option.some.injEq, Prod.mk.injEq] at H
       obtain ⟨rfl, rfl, rfl, rfl, rfl, rfl, rfl⟩ := H
       have hnb33 := NB168_169.out
       have hnc33 := NB169_168.out
       obtain ⟨hcz34_0, hcz34_1, hcz34_2, hcz34_3, hcz34_4, hcz34_5, hcz34_6, hfz34_0, hfz34_1, hfz34_2, hfz34_3, hfz34_4, hfz34_5, hfz34_6⟩ := cells_7 BK168.out
       go_wp2_with (first | ((with_reducible refine gate_callee (f := 27) rfl ?_); refine goesL_ (some 19) rfl rfl Try.func27 (by kernel_rfl) rfl #[.agg #[.int .i64 a0_0, .string a0_1, .int .i64 a0_2, .int .i64 a0_3, .string a0_4, .slice A0_5 l0_5.length c0_5, .slice A0_6 l0_6.length c0_6]] rfl (by (try simp only [List.map_toArray, List.map_cons, List.map_nil]); first | done | rfl | (simp only [List.length_drop, List.length_take]; rfl)) ?_; (with_reducible refine (pred_Copy.calls kj16 a0_0 a0_1 a0_2 a0_3 a0_4 _ _ l0_5 _ _ l0_6 t196 t197 t198 t199 t200 t201 t204 _ ?side1 ?side2 ?side3 ?side4 A32.out).mono ?_); (case side1 => repeat (first | exact (Kd.C_below HR0_5.out HB.out) | (with_reducible refine Kd.C_alloc ?_ _) | (with_reducible refine Kd.C_drewN ?_ _) | (with_reducible refine Kd.C_drew ?_))); (case side2 => first | exact HC0_5.out | exact Kd.V_mono HC0_5.out (fun k_ hk_ => by grind)); (case side3 => repeat (first | exact (Kd.C_below HR0_6.out HB.out) | (with_reducible refine Kd.C_alloc ?_ _) | (with_reducible refine Kd.C_drewN ?_ _) | (with_reducible refine Kd.C_drew ?_))); (case side4 => first | exact HC0_6.out | exact Kd.V_mono HC0_6.out (fun k_ hk_ => by grind)); rintro e w35 ⟨v202, v205, rfl, ho0, ho1, hb⟩; refine ⟨_, rfl, ?_⟩; (try replace ho1 := Kd.S_N ho1); have n0_ := Aside0.mk (Kd.R_lower (Kd.R_newM (M := fun k_ => (w.heap.size ≤ k_)) ho0 (below_size mZ) (fun k_ h_ => h_)) (below_size mZ)); have n1_ := Aside0.mk (Kd.N_lower (Kd.N_mono (ok' := fun k_ => (w.heap.size ≤ k_) ∧ some k_ ≠ (v202 : Value).ownBlock ∧ k_ ≠ gb168 ∧ k_ ≠ gb169) (Kd.R_N (Kd.R_bound ho1)) (fun k_ hk_ => ⟨(Nat.le_trans (below_size mZ) hk_.2.1), hk_.1, (Kd.freshB (mK BK168.out) k_ hk_.2.1), (Kd.freshB (mK BK169.out) k_ hk_.2.1)⟩)) (below_size mZ)); have n2_ := Aside0.mk (blk_below (mK BK168.out) hb); have n3_ := Aside0.mk (blk_below (mK BK169.out) hb); have n4_ := Aside0.mk (below_step mZ hb); clear BK168; clear BK169; clear HB; have HO203 := n0_; have HO206 := n1_; have BK168 := n2_; have BK169 := n3_; have HB := n4_; clear n0_ n1_ n2_ n3_ n4_; (try clear hb); (try clear hb2); (try clear hk); (try clear hi); (try clear ho0); (try clear ho1); obtain ⟨hcz36_0, hcz36_1, hcz36_2, hcz36_3, hcz36_4, hcz36_5, hcz36_6, hfz36_0, hfz36_1, hfz36_2, hfz36_3, hfz36_4, hfz36_5, hfz36_6⟩ := cells_7 BK169.out; obtain ⟨Ao37, co37, eo37⟩ := Kd.R_slice HO203.out; subst eo37; obtain ⟨Ao38, co38, eo38⟩ := Kd.N_slice HO206.out; subst eo38))
       refine bodyPost_ret (results_cell_row rfl _ _ gb169 25 #[.int .i64 t196, .string t197, .int .i64 t198, .int .i64 t199, .string t200, .slice Ao37 t201.length co37, .slice Ao38 t204.length co38] (0, 0) _ rfl (by (with_reducible repeat (first | refine blk_drewN ?_ _ | refine blk_drew ?_ | refine blk_alloc ?_ _)); apply puts_7; (with_reducible repeat (first | refine blk_drewN ?_ _ | refine blk_drew ?_ | refine blk_alloc ?_ _)); exact BK169.out) Try.underlying25 rfl (by kernel_rfl)) rfl ?_
       exact ⟨_, _, by first | rfl | (simp [errW_none, errW_some] <;> rfl) | (simp [*, errW_none, errW_some] <;> rfl), Kd.R_V (by (with_reducible repeat (first | apply Kd.R_alloc | apply Kd.R_drewN | apply Kd.R_drew)); exact Kd.R_mono (Kd.R_far (p := ⟨gb169, 6, none⟩) (Kd.R_far (p := ⟨gb169, 5, none⟩) (Kd.R_far (p := ⟨gb169, 4, none⟩) (Kd.R_far (p := ⟨gb169, 3, none⟩) (Kd.R_far (p := ⟨gb169, 2, none⟩) (Kd.R_far (p := ⟨gb169, 1, none⟩) (Kd.R_far (p := ⟨gb169, 0, none⟩) (Kd.R_types HO203.out BK169.out (by decide)) (fun _ hk => hk.2) (.int .i64 t196)) (fun _ hk => hk.2) (.string t197)) (fun _ hk => hk.2) (.int .i64 t198)) (fun _ hk => hk.2) (.int .i64 t199)) (fun _ hk => hk.2) (.string t200)) (fun _ hk => hk.2) (.slice Ao37 t201.length co37)) (fun _ hk => hk.2) (.slice Ao38 t204.length co38)) (fun _ hk => hk.1.1)), Kd.N_V (by (with_reducible repeat (first | apply Kd.N_alloc | apply Kd.N_drewN | apply Kd.N_drew)); exact Kd.N_mono (Kd.N_far (p := ⟨gb169, 6, none⟩) (Kd.N_far (p := ⟨gb169, 5, none⟩) (Kd.N_far (p := ⟨gb169, 4, none⟩) (Kd.N_far (p := ⟨gb169, 3, none⟩) (Kd.N_far (p := ⟨gb169, 2, none⟩) (Kd.N_far (p := ⟨gb169, 1, none⟩) (Kd.N_far (p := ⟨gb169, 0, none⟩) (Kd.N_mono HO206.out (fun k_ hk => (⟨hk, hk.2.2.2⟩ : _ ∧ k_ ≠ gb169))) (fun _ hk => hk.2) (.int .i64 t196)) (fun _ hk => hk.2) (.string t197)) (fun _ hk => hk.2) (.int .i64 t198)) (fun _ hk => hk.2) (.int .i64 t199)) (fun _ hk => hk.2) (.string t200)) (fun _ hk => hk.2) (.slice Ao37 t201.length co37)) (fun _ hk => hk.2) (.slice Ao38 t204.length co38)) (fun _ hk => hk.1.1)), mZ⟩
 case rest =>
  clear HC3
  try clear c7
  try clear c8
  try clear c8b0
  try clear c8b1
  try clear c9
  try clear c9b0
  try clear c9b1
  try clear c18
  try clear c18b0
  try clear c18b1
  try clear c19
  try clear c20
  try clear c21
  try clear hcz12_0
  try clear hcz12_1
  try clear hcz12_2
  try clear hcz12_3
  try clear hcz12_4
  try clear hcz12_5
  try clear hcz12_6
  try clear hcz14_0
  try clear hcz14_1
  try clear hcz14_2
  try clear hcz14_3
  try clear hcz14_4
  try clear hcz14_5
  try clear hcz14_6
  try clear hcz24_0
  try clear hcz24_1
  try clear hcz24_2
  try clear hcz24_3
  try clear hcz24_4
  try clear hcz24_5
  try clear hcz24_6
  try clear hcz31_0
  try clear hcz31_1
  try clear hcz31_2
  try clear hcz31_3
  try clear hcz31_4
  try clear hcz31_5
  try clear hcz31_6
  try clear hcz34_0
  try clear hcz34_1
  try clear hcz34_2
  try clear hcz34_3
  try clear hcz34_4
  try clear hcz34_5
  try clear hcz34_6
  try clear hcz36_0
  try clear hcz36_1
  try clear hcz36_2
  try clear hcz36_3
  try clear hcz36_4
  try clear hcz36_5
  try clear hcz36_6
  try clear hcz7_0
  try clear hcz7_1
  try clear hcz7_2
  try clear hcz7_3
  try clear hcz7_4
  try clear hcz7_5
  try clear hcz7_6
  try clear hfz12_0
  try clear hfz12_1
  try clear hfz12_2
  try clear hfz12_3
  try clear hfz12_4
  try clear hfz12_5
  try clear hfz12_6
  try clear hfz14_0
  try clear hfz14_1
  try clear hfz14_2
  try clear hfz14_3
  try clear hfz14_4
  try clear hfz14_5
  try clear hfz14_6
  try clear hfz24_0
  try clear hfz24_1
  try clear hfz24_2
  try clear hfz24_3
  try clear hfz24_4
  try clear hfz24_5
  try clear hfz24_6
  try clear hfz31_0
  try clear hfz31_1
  try clear hfz31_2
  try clear hfz31_3
  try clear hfz31_4
  try clear hfz31_5
  try clear hfz31_6
  try clear hfz34_0
  try clear hfz34_1
  try clear hfz34_2
  try clear hfz34_3
  try clear hfz34_4
  try clear hfz34_5
  try clear hfz34_6
  try clear hfz36_0
  try clear hfz36_1
  try clear hfz36_2
  try clear hfz36_3
  try clear hfz36_4
  try clear hfz36_5
  try clear hfz36_6
  try clear hfz7_0
  try clear hfz7_1
  try clear hfz7_2
  try clear hfz7_3
  try clear hfz7_4
  try clear hfz7_5
  try clear hfz7_6
  try clear hx170_0
  try clear hx170_1
  try clear hx170_2
  try clear hx170_3
  try clear hx170_4
  try clear hx170_5
  try clear hx170_6
  try clear p170
  try clear q170
  obtain ⟨kq, x5_2, x170000_2, x170001_2, x170002_2, x170003_2, x170004_2, rfl, HA, HJ2, BK168, BK169, HB⟩ := hcut
  cases kq with
  | zero => exact absurd HA.out (by simp [pred_normal.j1])
  | succ kj2 =>
   have H := HA.out
   clear HA
   simp only [pred_normal.j1] at H
   have H' := Aside0.mk H
   clear H
   go_wp2_with (first | ((with_reducible refine gate_dst (N := 6) rfl ?_); refine box_event ?hg (N := 6) ?hd (cs := #[.int .i64 0, .string (⟨#[]⟩ : ByteArray), .int .i64 0, .int .i64 0, .string (⟨#[]⟩ : ByteArray), .slice none 0 0, .slice none 0 0]) (t := 25) ?hr ?_; (case hd => rfl); (case hg => rfl); (case hr => first | (go_simp; done) | (go_simp; rfl)); intro gb207 hg w39 hbox hb; have n0_ := Aside0.mk (blk_below (mK BK168.out) hb); have n1_ := Aside0.mk (blk_below (mK BK169.out) hb); have n2_ := Aside0.mk (below_step mZ hb); have n3_ := Aside0.mk (hbox); have n4_ := Aside0.mk ((by rw [hg]; exact (below_size mZ) : w.heap.size ≤ gb207)); have n5_ := n4_; have n6_ := Aside0.mk ((by rw [hg]; exact Nat.ne_of_lt (blk_lt (mK BK168.out)) : gb168 ≠ gb207)); have n7_ := Aside0.mk ((by rw [hg]; exact Nat.ne_of_gt (blk_lt (mK BK168.out)) : gb207 ≠ gb168)); have n8_ := Aside0.mk ((by rw [hg]; exact Nat.ne_of_lt (blk_lt (mK BK169.out)) : gb169 ≠ gb207)); have n9_ := Aside0.mk ((by rw [hg]; exact Nat.ne_of_gt (blk_lt (mK BK169.out)) : gb207 ≠ gb169)); clear BK168; clear BK169; clear HB; have BK168 := n0_; have BK169 := n1_; have HB := n2_; have BK207 := n3_; have GW207 := n4_; have GE207 := n5_; have NB168_207 := n6_; have NB207_168 := n7_; have NB169_207 := n8_; have NB207_169 := n9_; clear n0_ n1_ n2_ n3_ n4_ n5_ n6_ n7_ n8_ n9_; clear hb hbox hg; have hnb40 := NB207_168.out; have hnc40 := NB168_207.out; have hnb41 := NB207_169.out; have hnc41 := NB169_207.out; obtain ⟨hcz42_0, hcz42_1, hcz42_2, hcz42_3, hcz42_4, hcz42_5, hcz42_6, hfz42_0, hfz42_1, hfz42_2, hfz42_3, hfz42_4, hfz42_5, hfz42_6⟩ := cells_7 BK207.out; have hnb43 := NB168_169.out; have hnc43 := NB169_168.out; obtain ⟨hcz44_0, hcz44_1, hcz44_2, hcz44_3, hcz44_4, hcz44_5, hcz44_6, hfz44_0, hfz44_1, hfz44_2, hfz44_3, hfz44_4, hfz44_5, hfz44_6⟩ := cells_7 BK168.out))
   try simp only [Act.put, List.setIfInBounds_toArray, List.set_cons_zero, List.set_cons_succ]
   go_loopg [40] kj2 (fun kq v40 w' => ∃ (x40_2 : Int) (x208006_2 : List (S25)) (u208006 : Value), v40 = .int .i64 x40_2 ∧ Aside0 (pred_normal.l0 kq a1 x5_2 l0_6 (l0_6.length : Int) x40_2 x5_2 (⟨#[]⟩ : ByteArray) 0 0 (⟨#[]⟩ : ByteArray) x208006_2 = some (r1, r2, r3, r4, r5, r6, r7)) ∧ Aside0 (kq ≤ kj2) ∧ Aside0 (Kd.N k25 25 w' w.heap.size (fun k_ => (w.heap.size ≤ k_) ∧ k_ ≠ gb168 ∧ k_ ≠ gb169 ∧ k_ ≠ gb207) u208006 x208006_2) ∧ Aside0 (w'.heap[gb168]? = some (.cells #[.int .i64 a0_0, .string a0_1, .int .i64 a0_2, .int .i64 a0_3, .string a0_4, (.slice A0_5 l0_5.length c0_5), (.slice A0_6 l0_6.length c0_6)] 25 (0, 0))) ∧ Aside0 (w'.heap[gb169]? = some (.cells #[.int .i64 x170000_2, .string x170001_2, .int .i64 x170002_2, .int .i64 x170003_2, .string x170004_2, (.slice none 0 0), (.slice none 0 0)] 25 (0, 0))) ∧ Aside0 (w'.heap[gb207]? = some (.cells #[.int .i64 x5_2, .string (⟨#[]⟩ : ByteArray), .int .i64 0, .int .i64 0, .string (⟨#[]⟩ : ByteArray), (.slice none 0 0), u208006] 25 (0, 0))) ∧ Aside0 (Below w.heap.size w w'))
   case atStart => exact ⟨(0), (([] : List (S25))), (.slice none 0 0), (by first | rfl | (simp; done) | (simp [*]; done)), H', ⟨Nat.le_refl _⟩, ⟨by first | exact Kd.R_nil _ _ _ _ _ | exact Kd.N_nil _ _ _ _ _ | exact Kd.V_nil _ _ _ _ _ | exact Kd.Q_nil _ _ _ _ _ | exact Kd.S_nil _ _ _ _ _⟩, ⟨by (with_reducible repeat (first | refine blk_drewN ?_ _ | refine blk_drew ?_ | refine blk_alloc ?_ _)); refine blk_far ?_ NB168_207.out _; refine blk_far ?_ NB168_207.out _; refine blk_far ?_ NB168_207.out _; refine blk_far ?_ NB168_207.out _; refine blk_far ?_ NB168_207.out _; refine blk_far ?_ NB168_207.out _; refine blk_far ?_ NB168_207.out _; (with_reducible repeat (first | refine blk_drewN ?_ _ | refine blk_drew ?_ | refine blk_alloc ?_ _)); exact BK168.out⟩, ⟨by (with_reducible repeat (first | refine blk_drewN ?_ _ | refine blk_drew ?_ | refine blk_alloc ?_ _)); refine blk_far ?_ NB169_207.out _; refine blk_far ?_ NB169_207.out _; refine blk_far ?_ NB169_207.out _; refine blk_far ?_ NB169_207.out _; refine blk_far ?_ NB169_207.out _; refine blk_far ?_ NB169_207.out _; refine blk_far ?_ NB169_207.out _; (with_reducible repeat (first | refine blk_drewN ?_ _ | refine blk_drew ?_ | refine blk_alloc ?_ _)); exact BK169.out⟩, ⟨by (with_reducible repeat (first | refine blk_drewN ?_ _ | refine blk_drew ?_ | refine blk_alloc ?_ _)); apply puts_7; (with_reducible repeat (first | refine blk_drewN ?_ _ | refine blk_drew ?_ | refine blk_alloc ?_ _)); exact BK207.out⟩, ⟨mZ⟩⟩
   case round =>
    clear H'
    try clear c7
    try clear c8
    try clear c8b0
    try clear c8b1
    try clear c9
    try clear c9b0
    try clear c9b1
    try clear c18
    try clear c18b0
    try clear c18b1
    try clear c19
    try clear c20
    try clear c21
    try clear hcz12_0
    try clear hcz12_1
    try clear hcz12_2
    try clear hcz12_3
    try clear hcz12_4
    try clear hcz12_5
    try clear hcz12_6
    try clear hcz14_0
    try clear hcz14_1
    try clear hcz14_2
    try clear hcz14_3
    try clear hcz14_4
    try clear hcz14_5
    try clear hcz14_6
    try clear hcz24_0
    try clear hcz24_1
    try clear hcz24_2
    try clear hcz24_3
    try clear hcz24_4
    try clear hcz24_5
    try clear hcz24_6
    try clear hcz31_0
    try clear hcz31_1
    try clear hcz31_2
    try clear hcz31_3
    try clear hcz31_4
    try clear hcz31_5
    try clear hcz31_6
    try clear hcz34_0
    try clear hcz34_1
    try clear hcz34_2
    try clear hcz34_3
    try clear hcz34_4
    try clear hcz34_5
    try clear hcz34_6
    try clear hcz36_0
    try clear hcz36_1
    try clear hcz36_2
    try clear hcz36_3
    try clear hcz36_4
    try clear hcz36_5
    try clear hcz36_6
    try clear hcz42_0
    try clear hcz42_1
    try clear hcz42_2
    try clear hcz42_3
    try clear hcz42_4
    try clear hcz42_5
    try clear hcz42_6
    try clear hcz44_0
    try clear hcz44_1
    try clear hcz44_2
    try clear hcz44_3
    try clear hcz44_4
    try clear hcz44_5
    try clear hcz44_6
    try clear hcz7_0
    try clear hcz7_1
    try clear hcz7_2
    try clear hcz7_3
    try clear hcz7_4
    try clear hcz7_5
    try clear hcz7_6
    try clear hfz12_0
    try clear hfz12_1
    try clear hfz12_2
    try clear hfz12_3
    try clear hfz12_4
    try clear hfz12_5
    try clear hfz12_6
    try clear hfz14_0
    try clear hfz14_1
    try clear hfz14_2
    try clear hfz14_3
    try clear hfz14_4
    try clear hfz14_5
    try clear hfz14_6
    try clear hfz24_0
    try clear hfz24_1
    try clear hfz24_2
    try clear hfz24_3
    try clear hfz24_4
    try clear hfz24_5
    try clear hfz24_6
    try clear hfz31_0
    try clear hfz31_1
    try clear hfz31_2
    try clear hfz31_3
    try clear hfz31_4
    try clear hfz31_5
    try clear hfz31_6
    try clear hfz34_0
    try clear hfz34_1
    try clear hfz34_2
    try clear hfz34_3
    try clear hfz34_4
    try clear hfz34_5
    try clear hfz34_6
    try clear hfz36_0
    try clear hfz36_1
    try clear hfz36_2
    try clear hfz36_3
    try clear hfz36_4
    try clear hfz36_5
    try clear hfz36_6
    try clear hfz42_0
    try clear hfz42_1
    try clear hfz42_2
    try clear hfz42_3
    try clear hfz42_4
    try clear hfz42_5
    try clear hfz42_6
    try clear hfz44_0
    try clear hfz44_1
    try clear hfz44_2
    try clear hfz44_3
    try clear hfz44_4
    try clear hfz44_5
    try clear hfz44_6
    try clear hfz7_0
    try clear hfz7_1
    try clear hfz7_2
    try clear hfz7_3
    try clear hfz7_4
    try clear hfz7_5
    try clear hfz7_6
    try clear hx170_0
    try clear hx170_1
    try clear hx170_2
    try clear hx170_3
    try clear hx170_4
    try clear hx170_5
    try clear hx170_6
    try clear p170
    try clear q170
    try clear BK168
    try clear BK169
    try clear BK207
    obtain ⟨x40_2, x208006_2, u208006, rfl, HA, HK2, HO_208006, BK168, BK169, BK207, HB⟩ := hrel
    cases gk with
    | zero => exact absurd HA.out (by simp [pred_normal.l0])
    | succ k2 =>
     have H := HA.out
     clear HA
     simp only [pred_normal.l0] at H
     by_cases c45 : x40_2 < (l0_6.length : Int)
     ·rw [if_pos c45] at H
      have c45b0 : decide (x40_2 < (l0_6.length : Int)) = true := decide_eq_true c45
      clear c45
      by_cases c46 : 0 ≤ x40_2
      ·rw [if_pos c46] at H
       have c46b0 : decide (0 ≤ x40_2) = true := decide_eq_true c46
       clear c46
       by_cases c47 : x40_2 < (l0_6.length : Int)
       ·rw [if_pos c47] at H
        have c47b0 : decide (x40_2 < (l0_6.length : Int)) = true := decide_eq_true c47
        clear c47
        replace H := Option.bind_eq_some_iff.mp H
        obtain ⟨⟨t210, t211, t212, t213, t214, t215, t218⟩, A480, H⟩ := H
        replace H : (if t210 = x5_2 then (if x208006_2.length + t218.length < 1353245080339 then (pred_normal.l0 k2 a1 x5_2 l0_6 (l0_6.length : Int) (wrap64 (x40_2 + 1)) x5_2 (⟨#[]⟩ : ByteArray) 0 0 (⟨#[]⟩ : ByteArray) (x208006_2 ++ t218)) else (none)) else (if x208006_2.length < 1353245080339 then (pred_normal.l0 k2 a1 x5_2 l0_6 (l0_6.length : Int) (wrap64 (x40_2 + 1)) x5_2 (⟨#[]⟩ : ByteArray) 0 0 (⟨#[]⟩ : ByteArray) (x208006_2 ++ [(⟨t210, t211, t212, t213, t214, t215, t218⟩ : S25)])) else (none))) = some (r1, r2, r3, r4, r5, r6, r7) := H
        have A48 := Aside0.mk A480
        clear A480
        by_cases c49 : t210 = x5_2
        ·rw [if_pos c49] at H
         have c49b0 : (t210 == x5_2) = true := beq_iff_eq.mpr c49
         have c49b1 : (t210 != x5_2) = false := bne_eq_false_iff_eq.mpr c49
         clear c49
         by_cases c50 : x208006_2.length + t218.length < 1353245080339
         ·rw [if_pos c50] at H
          have LMc50 := Aside0.mk c50
          clear c50
          obtain ⟨y222, hy222⟩ : ∃ y_ : List (S25), y_ = (x208006_2 ++ t218) := ⟨_, rfl⟩
          replace H : (pred_normal.l0 k2 a1 x5_2 l0_6 (l0_6.length : Int) (wrap64 (x40_2 + 1)) x5_2 (⟨#[]⟩ : ByteArray) 0 0 (⟨#[]⟩ : ByteArray) y222) = some (r1, r2, r3, r4, r5, r6, r7) := by first | (rw [hy222]; with_reducible exact H) | (have H2_ := (Option.bind_some _ _).symm.trans H; rw [hy222]; with_reducible exact H2_) | (have H2_ := (Option.bind_some _ _).symm.trans H; with_reducible exact H2_) | with_reducible exact H | (rw [hy222]; exact H) | exact H
          have Ny222 := Aside0.mk hy222
          clear hy222
          have H' := Aside0.mk H
          clear H
          have p208 : 0 ≤ (x40_2 : Int) := of_decide_eq_true (by first | (with_reducible assumption) | assumption)
          have q208 : x40_2 < (l0_6.length : Int) := of_decide_eq_true (by first | (with_reducible assumption) | assumption)
          obtain ⟨ad208, A208_5, c208_5, A208_6, c208_6, e208, hx208_0, hx208_1, hx208_2, hx208_3, hx208_4, hx208_5, hx208_6, hl208_5, hi208_5, hl208_6, hi208_6⟩ := at_T25 HR0_6.out x40_2 p208 q208
          cases e208
          replace hx208_0 := (HB.out.cell (World.block_lt_of_cell? w _ hx208_0)).trans hx208_0
          replace hx208_1 := (HB.out.cell (World.block_lt_of_cell? w _ hx208_1)).trans hx208_1
          replace hx208_2 := (HB.out.cell (World.block_lt_of_cell? w _ hx208_2)).trans hx208_2
          replace hx208_3 := (HB.out.cell (World.block_lt_of_cell? w _ hx208_3)).trans hx208_3
          replace hx208_4 := (HB.out.cell (World.block_lt_of_cell? w _ hx208_4)).trans hx208_4
          replace hx208_5 := (HB.out.cell (World.block_lt_of_cell? w _ hx208_5)).trans hx208_5
          replace hx208_6 := (HB.out.cell (World.block_lt_of_cell? w _ hx208_6)).trans hx208_6
          have HR208_5 := Aside0.mk hi208_5
          have HC208_5 := Aside0.mk hl208_5
          clear hi208_5 hl208_5
          have HR208_6 := Aside0.mk hi208_6
          have HC208_6 := Aside0.mk hl208_6
          clear hi208_6 hl208_6
          replace p208 := eq_true p208
          replace q208 := eq_true q208
          go_wp2_with (first | ((with_reducible refine gate_dst (N := 8) rfl ?_); refine box_event ?hg (N := 8) ?hd (cs := #[.int .i64 0, .string (⟨#[]⟩ : ByteArray), .int .i64 0, .int .i64 0, .string (⟨#[]⟩ : ByteArray), .slice none 0 0, .slice none 0 0]) (t := 25) ?hr ?_; (case hd => rfl); (case hg => rfl); (case hr => first | (go_simp; done) | (go_simp; rfl)); intro gb209 hg w51 hbox hb; have n0_ := Aside0.mk (Kd.N_below (Kd.N_elderB (mN HO_208006.out) gb209 (Nat.le_of_eq hg.symm)) hb); have n1_ := Aside0.mk (blk_below (mK BK168.out) hb); have n2_ := Aside0.mk (blk_below (mK BK169.out) hb); have n3_ := Aside0.mk (blk_below (mK BK207.out) hb); have n4_ := Aside0.mk (below_step mZ hb); have n5_ := Aside0.mk (hbox); have n6_ := Aside0.mk ((by rw [hg]; exact (below_size mZ) : w.heap.size ≤ gb209)); have n7_ := n6_; have n8_ := Aside0.mk ((by rw [hg]; exact Nat.ne_of_lt (blk_lt (mK BK168.out)) : gb168 ≠ gb209)); have n9_ := Aside0.mk ((by rw [hg]; exact Nat.ne_of_gt (blk_lt (mK BK168.out)) : gb209 ≠ gb168)); have n10_ := Aside0.mk ((by rw [hg]; exact Nat.ne_of_lt (blk_lt (mK BK169.out)) : gb169 ≠ gb209)); have n11_ := Aside0.mk ((by rw [hg]; exact Nat.ne_of_gt (blk_lt (mK BK169.out)) : gb209 ≠ gb169)); have n12_ := Aside0.mk ((by rw [hg]; exact Nat.ne_of_lt (blk_lt (mK BK207.out)) : gb207 ≠ gb209)); have n13_ := Aside0.mk ((by rw [hg]; exact Nat.ne_of_gt (blk_lt (mK BK207.out)) : gb209 ≠ gb207)); clear HO_208006; clear BK168; clear BK169; clear BK207; clear HB; have HO_208006 := n0_; have BK168 := n1_; have BK169 := n2_; have BK207 := n3_; have HB := n4_; have BK209 := n5_; have GW209 := n6_; have GE209 := n7_; have NB168_209 := n8_; have NB209_168 := n9_; have NB169_209 := n10_; have NB209_169 := n11_; have NB207_209 := n12_; have NB209_207 := n13_; clear n0_ n1_ n2_ n3_ n4_ n5_ n6_ n7_ n8_ n9_ n10_ n11_ n12_ n13_; clear hb hbox hg; have hnb52 := NB209_168.out; have hnc52 := NB168_209.out; have hnb53 := NB209_169.out; have hnc53 := NB169_209.out; have hnb54 := NB209_207.out; have hnc54 := NB207_209.out; obtain ⟨hcz55_0, hcz55_1, hcz55_2, hcz55_3, hcz55_4, hcz55_5, hcz55_6, hfz55_0, hfz55_1, hfz55_2, hfz55_3, hfz55_4, hfz55_5, hfz55_6⟩ := cells_7 BK209.out) | ((with_reducible refine gate_callee (f := 28) rfl ?_); refine goesL_ (some 46) rfl rfl Try.func28 (by kernel_rfl) rfl #[.agg #[.int .i64 ((rd_T25 l0_6 x40_2).f0), .string ((rd_T25 l0_6 x40_2).f1), .int .i64 ((rd_T25 l0_6 x40_2).f2), .int .i64 ((rd_T25 l0_6 x40_2).f3), .string ((rd_T25 l0_6 x40_2).f4), .slice A208_5 ((rd_T25 l0_6 x40_2).f5).length c208_5, .slice A208_6 ((rd_T25 l0_6 x40_2).f6).length c208_6], .bool a1] rfl (by (try simp only [List.map_toArray, List.map_cons, List.map_nil]); first | done | rfl | (simp only [List.length_drop, List.length_take]; rfl)) ?_; (with_reducible refine (ih k2 (by have := HJ2.out; have := HK2.out; omega) ((rd_T25 l0_6 x40_2).f0) ((rd_T25 l0_6 x40_2).f1) ((rd_T25 l0_6 x40_2).f2) ((rd_T25 l0_6 x40_2).f3) ((rd_T25 l0_6 x40_2).f4) _ _ ((rd_T25 l0_6 x40_2).f5) _ _ ((rd_T25 l0_6 x40_2).f6) a1 t210 t211 t212 t213 t214 t215 t218 _ ?side1 ?side2 ?side3 ?side4 A48.out).mono ?_); (case side1 => exact Kd.C_below HR208_5.out mZ); (case side2 => first | exact HC208_5.out | exact Kd.V_mono HC208_5.out (fun k_ hk_ => by grind)); (case side3 => exact Kd.C_below HR208_6.out mZ); (case side4 => first | exact HC208_6.out | exact Kd.V_mono HC208_6.out (fun k_ hk_ => by grind)); rintro e w56 ⟨v216, v219, rfl, ho0, ho1, hb⟩; refine ⟨_, rfl, ?_⟩; have n0_ := Aside0.mk (Kd.N_below (by (with_reducible repeat (first | apply Kd.N_alloc | apply Kd.N_drewN | apply Kd.N_drew)); exact (Kd.N_mono (Kd.N_far (p := ⟨gb209, 6, none⟩) (Kd.N_far (p := ⟨gb209, 5, none⟩) (Kd.N_far (p := ⟨gb209, 4, none⟩) (Kd.N_far (p := ⟨gb209, 3, none⟩) (Kd.N_far (p := ⟨gb209, 2, none⟩) (Kd.N_far (p := ⟨gb209, 1, none⟩) (Kd.N_far (p := ⟨gb209, 0, none⟩) (Kd.N_mono HO_208006.out (fun k_ hk => (⟨hk, hk.2⟩ : _ ∧ k_ ≠ gb209))) (fun _ hk => hk.2) (.int .i64 ((rd_T25 l0_6 x40_2).f0))) (fun _ hk => hk.2) (.string ((rd_T25 l0_6 x40_2).f1))) (fun _ hk => hk.2) (.int .i64 ((rd_T25 l0_6 x40_2).f2))) (fun _ hk => hk.2) (.int .i64 ((rd_T25 l0_6 x40_2).f3))) (fun _ hk => hk.2) (.string ((rd_T25 l0_6 x40_2).f4))) (fun _ hk => hk.2) (.slice A208_5 ((rd_T25 l0_6 x40_2).f5).length c208_5)) (fun _ hk => hk.2) (.slice A208_6 ((rd_T25 l0_6 x40_2).f6).length c208_6)) (fun _ h_ => h_.1))) hb); have n1_ := Aside0.mk (Kd.V_lower (Kd.V_mono (ok' := fun k_ => (w.heap.size ≤ k_) ∧ some k_ ≠ (u208006 : Value).ownBlock ∧ k_ ≠ gb168 ∧ k_ ≠ gb169 ∧ k_ ≠ gb207 ∧ k_ ≠ gb209) ho0 (fun k_ hk_ => ⟨(Nat.le_trans (below_size mZ) hk_), (Kd.fresh' (Kd.N_lt (by (with_reducible repeat (first | apply Kd.N_alloc | apply Kd.N_drewN | apply Kd.N_drew)); exact (Kd.N_mono (Kd.N_far (p := ⟨gb209, 6, none⟩) (Kd.N_far (p := ⟨gb209, 5, none⟩) (Kd.N_far (p := ⟨gb209, 4, none⟩) (Kd.N_far (p := ⟨gb209, 3, none⟩) (Kd.N_far (p := ⟨gb209, 2, none⟩) (Kd.N_far (p := ⟨gb209, 1, none⟩) (Kd.N_far (p := ⟨gb209, 0, none⟩) (Kd.N_mono HO_208006.out (fun k_ hk => (⟨hk, hk.2⟩ : _ ∧ k_ ≠ gb209))) (fun _ hk => hk.2) (.int .i64 ((rd_T25 l0_6 x40_2).f0))) (fun _ hk => hk.2) (.string ((rd_T25 l0_6 x40_2).f1))) (fun _ hk => hk.2) (.int .i64 ((rd_T25 l0_6 x40_2).f2))) (fun _ hk => hk.2) (.int .i64 ((rd_T25 l0_6 x40_2).f3))) (fun _ hk => hk.2) (.string ((rd_T25 l0_6 x40_2).f4))) (fun _ hk => hk.2) (.slice A208_5 ((rd_T25 l0_6 x40_2).f5).length c208_5)) (fun _ hk => hk.2) (.slice A208_6 ((rd_T25 l0_6 x40_2).f6).length c208_6)) (fun _ h_ => h_.1)))) k_ hk_), (Kd.freshB (g := gb168) (o := .cells #[.int .i64 a0_0, .string a0_1, .int .i64 a0_2, .int .i64 a0_3, .string a0_4, .slice A0_5 l0_5.length c0_5, .slice (some ad208) l0_6.length c0_6] 25 (0, 0)) (by (with_reducible repeat (first | refine blk_drewN ?_ _ | refine blk_drew ?_ | refine blk_alloc ?_ _)); refine blk_far ?_ NB168_209.out _; refine blk_far ?_ NB168_209.out _; refine blk_far ?_ NB168_209.out _; refine blk_far ?_ NB168_209.out _; refine blk_far ?_ NB168_209.out _; refine blk_far ?_ NB168_209.out _; refine blk_far ?_ NB168_209.out _; (with_reducible repeat (first | refine blk_drewN ?_ _ | refine blk_drew ?_ | refine blk_alloc ?_ _)); exact BK168.out) k_ hk_), (Kd.freshB (g := gb169) (o := .cells #[.int .i64 x170000_2, .string x170001_2, .int .i64 x170002_2, .int .i64 x170003_2, .string x170004_2, .slice none 0 0, .slice none 0 0] 25 (0, 0)) (by (with_reducible repeat (first | refine blk_drewN ?_ _ | refine blk_drew ?_ | refine blk_alloc ?_ _)); refine blk_far ?_ NB169_209.out _; refine blk_far ?_ NB169_209.out _; refine blk_far ?_ NB169_209.out _; refine blk_far ?_ NB169_209.out _; refine blk_far ?_ NB169_209.out _; refine blk_far ?_ NB169_209.out _; refine blk_far ?_ NB169_209.out _; (with_reducible repeat (first | refine blk_drewN ?_ _ | refine blk_drew ?_ | refine blk_alloc ?_ _)); exact BK169.out) k_ hk_), (Kd.freshB (g := gb207) (o := .cells #[.int .i64 x5_2, .string (⟨#[]⟩ : ByteArray), .int .i64 0, .int .i64 0, .string (⟨#[]⟩ : ByteArray), .slice none 0 0, u208006] 25 (0, 0)) (by (with_reducible repeat (first | refine blk_drewN ?_ _ | refine blk_drew ?_ | refine blk_alloc ?_ _)); refine blk_far ?_ NB207_209.out _; refine blk_far ?_ NB207_209.out _; refine blk_far ?_ NB207_209.out _; refine blk_far ?_ NB207_209.out _; refine blk_far ?_ NB207_209.out _; refine blk_far ?_ NB207_209.out _; refine blk_far ?_ NB207_209.out _; (with_reducible repeat (first | refine blk_drewN ?_ _ | refine blk_drew ?_ | refine blk_alloc ?_ _)); exact BK207.out) k_ hk_), (Kd.freshB (g := gb209) (o := .cells #[.int .i64 ((rd_T25 l0_6 x40_2).f0), .string ((rd_T25 l0_6 x40_2).f1), .int .i64 ((rd_T25 l0_6 x40_2).f2), .int .i64 ((rd_T25 l0_6 x40_2).f3), .string ((rd_T25 l0_6 x40_2).f4), .slice A208_5 ((rd_T25 l0_6 x40_2).f5).length c208_5, .slice A208_6 ((rd_T25 l0_6 x40_2).f6).length c208_6] 25 (0, 0)) (by (with_reducible repeat (first | refine blk_drewN ?_ _ | refine blk_drew ?_ | refine blk_alloc ?_ _)); apply puts_7; (with_reducible repeat (first | refine blk_drewN ?_ _ | refine blk_drew ?_ | refine blk_alloc ?_ _)); exact BK209.out) k_ hk_)⟩)) (below_size mZ)); have n2_ := Aside0.mk (Kd.V_lower (Kd.V_mono (ok' := fun k_ => (w.heap.size ≤ k_) ∧ some k_ ≠ (u208006 : Value).ownBlock ∧ k_ ≠ gb168 ∧ k_ ≠ gb169 ∧ k_ ≠ gb207 ∧ k_ ≠ gb209) ho1 (fun k_ hk_ => ⟨(Nat.le_trans (below_size mZ) hk_), (Kd.fresh' (Kd.N_lt (by (with_reducible repeat (first | apply Kd.N_alloc | apply Kd.N_drewN | apply Kd.N_drew)); exact (Kd.N_mono (Kd.N_far (p := ⟨gb209, 6, none⟩) (Kd.N_far (p := ⟨gb209, 5, none⟩) (Kd.N_far (p := ⟨gb209, 4, none⟩) (Kd.N_far (p := ⟨gb209, 3, none⟩) (Kd.N_far (p := ⟨gb209, 2, none⟩) (Kd.N_far (p := ⟨gb209, 1, none⟩) (Kd.N_far (p := ⟨gb209, 0, none⟩) (Kd.N_mono HO_208006.out (fun k_ hk => (⟨hk, hk.2⟩ : _ ∧ k_ ≠ gb209))) (fun _ hk => hk.2) (.int .i64 ((rd_T25 l0_6 x40_2).f0))) (fun _ hk => hk.2) (.string ((rd_T25 l0_6 x40_2).f1))) (fun _ hk => hk.2) (.int .i64 ((rd_T25 l0_6 x40_2).f2))) (fun _ hk => hk.2) (.int .i64 ((rd_T25 l0_6 x40_2).f3))) (fun _ hk => hk.2) (.string ((rd_T25 l0_6 x40_2).f4))) (fun _ hk => hk.2) (.slice A208_5 ((rd_T25 l0_6 x40_2).f5).length c208_5)) (fun _ hk => hk.2) (.slice A208_6 ((rd_T25 l0_6 x40_2).f6).length c208_6)) (fun _ h_ => h_.1)))) k_ hk_), (Kd.freshB (g := gb168) (o := .cells #[.int .i64 a0_0, .string a0_1, .int .i64 a0_2, .int .i64 a0_3, .string a0_4, .slice A0_5 l0_5.length c0_5, .slice (some ad208) l0_6.length c0_6] 25 (0, 0)) (by (with_reducible repeat (first | refine blk_drewN ?_ _ | refine blk_drew ?_ | refine blk_alloc ?_ _)); refine blk_far ?_ NB168_209.out _; refine blk_far ?_ NB168_209.out _; refine blk_far ?_ NB168_209.out _; refine blk_far ?_ NB168_209.out _; refine blk_far ?_ NB168_209.out _; refine blk_far ?_ NB168_209.out _; refine blk_far ?_ NB168_209.out _; (with_reducible repeat (first | refine blk_drewN ?_ _ | refine blk_drew ?_ | refine blk_alloc ?_ _)); exact BK168.out) k_ hk_), (Kd.freshB (g := gb169) (o := .cells #[.int .i64 x170000_2, .string x170001_2, .int .i64 x170002_2, .int .i64 x170003_2, .string x170004_2, .slice none 0 0, .slice none 0 0] 25 (0, 0)) (by (with_reducible repeat (first | refine blk_drewN ?_ _ | refine blk_drew ?_ | refine blk_alloc ?_ _)); refine blk_far ?_ NB169_209.out _; refine blk_far ?_ NB169_209.out _; refine blk_far ?_ NB169_209.out _; refine blk_far ?_ NB169_209.out _; refine blk_far ?_ NB169_209.out _; refine blk_far ?_ NB169_209.out _; refine blk_far ?_ NB169_209.out _; (with_reducible repeat (first | refine blk_drewN ?_ _ | refine blk_drew ?_ | refine blk_alloc ?_ _)); exact BK169.out) k_ hk_), (Kd.freshB (g := gb207) (o := .cells #[.int .i64 x5_2, .string (⟨#[]⟩ : ByteArray), .int .i64 0, .int .i64 0, .string (⟨#[]⟩ : ByteArray), .slice none 0 0, u208006] 25 (0, 0)) (by (with_reducible repeat (first | refine blk_drewN ?_ _ | refine blk_drew ?_ | refine blk_alloc ?_ _)); refine blk_far ?_ NB207_209.out _; refine blk_far ?_ NB207_209.out _; refine blk_far ?_ NB207_209.out _; refine blk_far ?_ NB207_209.out _; refine blk_far ?_ NB207_209.out _; refine blk_far ?_ NB207_209.out _; refine blk_far ?_ NB207_209.out _; (with_reducible repeat (first | refine blk_drewN ?_ _ | refine blk_drew ?_ | refine blk_alloc ?_ _)); exact BK207.out) k_ hk_), (Kd.freshB (g := gb209) (o := .cells #[.int .i64 ((rd_T25 l0_6 x40_2).f0), .string ((rd_T25 l0_6 x40_2).f1), .int .i64 ((rd_T25 l0_6 x40_2).f2), .int .i64 ((rd_T25 l0_6 x40_2).f3), .string ((rd_T25 l0_6 x40_2).f4), .slice A208_5 ((rd_T25 l0_6 x40_2).f5).length c208_5, .slice A208_6 ((rd_T25 l0_6 x40_2).f6).length c208_6] 25 (0, 0)) (by (with_reducible repeat (first | refine blk_drewN ?_ _ | refine blk_drew ?_ | refine blk_alloc ?_ _)); apply puts_7; (with_reducible repeat (first | refine blk_drewN ?_ _ | refine blk_drew ?_ | refine blk_alloc ?_ _)); exact BK209.out) k_ hk_)⟩)) (below_size mZ)); have n3_ := Aside0.mk (blk_below (g := gb168) (o := .cells #[.int .i64 a0_0, .string a0_1, .int .i64 a0_2, .int .i64 a0_3, .string a0_4, .slice A0_5 l0_5.length c0_5, .slice (some ad208) l0_6.length c0_6] 25 (0, 0)) (by (with_reducible repeat (first | refine blk_drewN ?_ _ | refine blk_drew ?_ | refine blk_alloc ?_ _)); refine blk_far ?_ NB168_209.out _; refine blk_far ?_ NB168_209.out _; refine blk_far ?_ NB168_209.out _; refine blk_far ?_ NB168_209.out _; refine blk_far ?_ NB168_209.out _; refine blk_far ?_ NB168_209.out _; refine blk_far ?_ NB168_209.out _; (with_reducible repeat (first | refine blk_drewN ?_ _ | refine blk_drew ?_ | refine blk_alloc ?_ _)); exact BK168.out) hb); have n4_ := Aside0.mk (blk_below (g := gb169) (o := .cells #[.int .i64 x170000_2, .string x170001_2, .int .i64 x170002_2, .int .i64 x170003_2, .string x170004_2, .slice none 0 0, .slice none 0 0] 25 (0, 0)) (by (with_reducible repeat (first | refine blk_drewN ?_ _ | refine blk_drew ?_ | refine blk_alloc ?_ _)); refine blk_far ?_ NB169_209.out _; refine blk_far ?_ NB169_209.out _; refine blk_far ?_ NB169_209.out _; refine blk_far ?_ NB169_209.out _; refine blk_far ?_ NB169_209.out _; refine blk_far ?_ NB169_209.out _; refine blk_far ?_ NB169_209.out _; (with_reducible repeat (first | refine blk_drewN ?_ _ | refine blk_drew ?_ | refine blk_alloc ?_ _)); exact BK169.out) hb); have n5_ := Aside0.mk (blk_below (g := gb207) (o := .cells #[.int .i64 x5_2, .string (⟨#[]⟩ : ByteArray), .int .i64 0, .int .i64 0, .string (⟨#[]⟩ : ByteArray), .slice none 0 0, u208006] 25 (0, 0)) (by (with_reducible repeat (first | refine blk_drewN ?_ _ | refine blk_drew ?_ | refine blk_alloc ?_ _)); refine blk_far ?_ NB207_209.out _; refine blk_far ?_ NB207_209.out _; refine blk_far ?_ NB207_209.out _; refine blk_far ?_ NB207_209.out _; refine blk_far ?_ NB207_209.out _; refine blk_far ?_ NB207_209.out _; refine blk_far ?_ NB207_209.out _; (with_reducible repeat (first | refine blk_drewN ?_ _ | refine blk_drew ?_ | refine blk_alloc ?_ _)); exact BK207.out) hb); have n6_ := Aside0.mk (blk_below (g := gb209) (o := .cells #[.int .i64 ((rd_T25 l0_6 x40_2).f0), .string ((rd_T25 l0_6 x40_2).f1), .int .i64 ((rd_T25 l0_6 x40_2).f2), .int .i64 ((rd_T25 l0_6 x40_2).f3), .string ((rd_T25 l0_6 x40_2).f4), .slice A208_5 ((rd_T25 l0_6 x40_2).f5).length c208_5, .slice A208_6 ((rd_T25 l0_6 x40_2).f6).length c208_6] 25 (0, 0)) (by (with_reducible repeat (first | refine blk_drewN ?_ _ | refine blk_drew ?_ | refine blk_alloc ?_ _)); apply puts_7; (with_reducible repeat (first | refine blk_drewN ?_ _ | refine blk_drew ?_ | refine blk_alloc ?_ _)); exact BK209.out) hb); have n7_ := Aside0.mk (below_step mZ hb); clear HO_208006; clear BK168; clear BK169; clear BK207; clear BK209; clear HB; have HO_208006 := n0_; have HO217 := n1_; have HO220 := n2_; have BK168 := n3_; have BK169 := n4_; have BK207 := n5_; have BK209 := n6_; have HB := n7_; clear n0_ n1_ n2_ n3_ n4_ n5_ n6_ n7_; (try clear hb); (try clear hb2); (try clear hk); (try clear hi); (try clear ho0); (try clear ho1)) | ((with_reducible refine gate_dst (N := 9) rfl ?_); refine box_event ?hg (N := 9) ?hd (cs := #[.int .i64 0, .string (⟨#[]⟩ : ByteArray), .int .i64 0, .int .i64 0, .string (⟨#[]⟩ : ByteArray), .slice none 0 0, .slice none 0 0]) (t := 25) ?hr ?_; (case hd => rfl); (case hg => rfl); (case hr => first | (go_simp; done) | (go_simp; rfl)); intro gb221 hg w57 hbox hb; have n0_ := Aside0.mk (Kd.N_below (Kd.N_elderB (mN HO_208006.out) gb221 (Nat.le_of_eq hg.symm)) hb); have n1_ := Aside0.mk (Kd.V_below (Kd.V_elderB (mV HO217.out) gb221 (Nat.le_of_eq hg.symm)) hb); have n2_ := Aside0.mk (Kd.V_below (Kd.V_elderB (mV HO220.out) gb221 (Nat.le_of_eq hg.symm)) hb); have n3_ := Aside0.mk (blk_below (mK BK168.out) hb); have n4_ := Aside0.mk (blk_below (mK BK169.out) hb); have n5_ := Aside0.mk (blk_below (mK BK207.out) hb); have n6_ := Aside0.mk (blk_below (mK BK209.out) hb); have n7_ := Aside0.mk (below_step mZ hb); have n8_ := Aside0.mk (hbox); have n9_ := Aside0.mk ((by rw [hg]; exact (below_size mZ) : w.heap.size ≤ gb221)); have n10_ := n9_; have n11_ := Aside0.mk ((by rw [hg]; exact Nat.ne_of_lt (blk_lt (mK BK168.out)) : gb168 ≠ gb221)); have n12_ := Aside0.mk ((by rw [hg]; exact Nat.ne_of_gt (blk_lt (mK BK168.out)) : gb221 ≠ gb168)); have n13_ := Aside0.mk ((by rw [hg]; exact Nat.ne_of_lt (blk_lt (mK BK169.out)) : gb169 ≠ gb221)); have n14_ := Aside0.mk ((by rw [hg]; exact Nat.ne_of_gt (blk_lt (mK BK169.out)) : gb221 ≠ gb169)); have n15_ := Aside0.mk ((by rw [hg]; exact Nat.ne_of_lt (blk_lt (mK BK207.out)) : gb207 ≠ gb221)); have n16_ := Aside0.mk ((by rw [hg]; exact Nat.ne_of_gt (blk_lt (mK BK207.out)) : gb221 ≠ gb207)); have n17_ := Aside0.mk ((by rw [hg]; exact Nat.ne_of_lt (blk_lt (mK BK209.out)) : gb209 ≠ gb221)); have n18_ := Aside0.mk ((by rw [hg]; exact Nat.ne_of_gt (blk_lt (mK BK209.out)) : gb221 ≠ gb209)); clear HO_208006; clear HO217; clear HO220; clear BK168; clear BK169; clear BK207; clear BK209; clear HB; have HO_208006 := n0_; have HO217 := n1_; have HO220 := n2_; have BK168 := n3_; have BK169 := n4_; have BK207 := n5_; have BK209 := n6_; have HB := n7_; have BK221 := n8_; have GW221 := n9_; have GE221 := n10_; have NB168_221 := n11_; have NB221_168 := n12_; have NB169_221 := n13_; have NB221_169 := n14_; have NB207_221 := n15_; have NB221_207 := n16_; have NB209_221 := n17_; have NB221_209 := n18_; clear n0_ n1_ n2_ n3_ n4_ n5_ n6_ n7_ n8_ n9_ n10_ n11_ n12_ n13_ n14_ n15_ n16_ n17_ n18_; clear hb hbox hg; have hnb58 := NB221_168.out; have hnc58 := NB168_221.out; have hnb59 := NB221_169.out; have hnc59 := NB169_221.out; have hnb60 := NB221_207.out; have hnc60 := NB207_221.out; have hnb61 := NB221_209.out; have hnc61 := NB209_221.out; obtain ⟨hcz62_0, hcz62_1, hcz62_2, hcz62_3, hcz62_4, hcz62_5, hcz62_6, hfz62_0, hfz62_1, hfz62_2, hfz62_3, hfz62_4, hfz62_5, hfz62_6⟩ := cells_7 BK221.out; obtain ⟨Ao63, co63, eo63⟩ := Kd.V_slice HO217.out; subst eo63; obtain ⟨Ao64, co64, eo64⟩ := Kd.V_slice HO220.out; subst eo64; have hnb65 := NB207_168.out; have hnc65 := NB168_207.out; have hnb66 := NB207_169.out; have hnc66 := NB169_207.out; obtain ⟨hcz67_0, hcz67_1, hcz67_2, hcz67_3, hcz67_4, hcz67_5, hcz67_6, hfz67_0, hfz67_1, hfz67_2, hfz67_3, hfz67_4, hfz67_5, hfz67_6⟩ := cells_7 BK207.out) | ((with_reducible refine gate_builtin (b := .append) (xs := #[.tmp 52, .tmp 54]) rfl ?_); at_builtin; refine Kd.N_append_rows k25 (w0 := w) w.heap.size rfl (.tmp 52) (.tmp 54) 23 25 (.agg #[(.int .i64 0), (.string ⟨#[]⟩), (.int .i64 0), (.int .i64 0), (.string ⟨#[]⟩), (.slice none 0 0), (.slice none 0 0)]) 104 rfl Try.underlying23 info25 rfl (by decide) (by omega) u208006 x208006_2 t218 _ _ _ (fun k_ => (w.heap.size ≤ k_) ∧ k_ ≠ gb168 ∧ k_ ≠ gb169 ∧ k_ ≠ gb207 ∧ k_ ≠ gb209 ∧ k_ ≠ gb221) (fun k_ => ((fun k_ => (w.heap.size ≤ k_) ∧ k_ ≠ gb168 ∧ k_ ≠ gb169 ∧ k_ ≠ gb207 ∧ k_ ≠ gb209 ∧ k_ ≠ gb221)) k_ ∧ some k_ ≠ (u208006 : Value).ownBlock) rfl rfl ?aO ?aR (fun _ hk => hk) ?aF ?aB ?aS ?aL ?_; (case aR => exact (by skip; exact Kd.V_F (Kd.V_mono (ok' := (fun k_ => ((fun k_ => (w.heap.size ≤ k_) ∧ k_ ≠ gb168 ∧ k_ ≠ gb169 ∧ k_ ≠ gb207 ∧ k_ ≠ gb209 ∧ k_ ≠ gb221)) k_ ∧ some k_ ≠ (u208006 : Value).ownBlock)) ((Kd.V_far (p := ⟨gb221, 6, none⟩) (Kd.V_far (p := ⟨gb221, 5, none⟩) (Kd.V_far (p := ⟨gb221, 4, none⟩) (Kd.V_far (p := ⟨gb221, 3, none⟩) (Kd.V_far (p := ⟨gb221, 2, none⟩) (Kd.V_far (p := ⟨gb221, 1, none⟩) (Kd.V_far (p := ⟨gb221, 0, none⟩) (Kd.V_mono HO220.out (fun k_ hk => (⟨hk, hk.2⟩ : _ ∧ k_ ≠ gb221))) (fun _ hk => hk.2) (.int .i64 t210)) (fun _ hk => hk.2) (.string t211)) (fun _ hk => hk.2) (.int .i64 t212)) (fun _ hk => hk.2) (.int .i64 t213)) (fun _ hk => hk.2) (.string t214)) (fun _ hk => hk.2) (.slice Ao63 t215.length co63)) (fun _ hk => hk.2) (.slice Ao64 t218.length co64))) (fun k_ hk => ⟨⟨hk.1.1.1, ⟨hk.1.1.2.2.1, ⟨hk.1.1.2.2.2.1, ⟨hk.1.1.2.2.2.2.1, ⟨hk.1.1.2.2.2.2.2, hk.1.2⟩⟩⟩⟩⟩, hk.1.1.2.1⟩)))); (case aB => exact mZ); (case aF => exact (fun k_ hk => ⟨(Nat.le_trans (below_size mZ) hk), Kd.freshB (g := gb168) (o := .cells #[.int .i64 a0_0, .string a0_1, .int .i64 a0_2, .int .i64 a0_3, .string a0_4, .slice A0_5 l0_5.length c0_5, .slice (some ad208) l0_6.length c0_6] 25 (0, 0)) (by (with_reducible repeat (first | refine blk_drewN ?_ _ | refine blk_drew ?_ | refine blk_alloc ?_ _)); refine blk_far ?_ NB168_221.out _; refine blk_far ?_ NB168_221.out _; refine blk_far ?_ NB168_221.out _; refine blk_far ?_ NB168_221.out _; refine blk_far ?_ NB168_221.out _; refine blk_far ?_ NB168_221.out _; refine blk_far ?_ NB168_221.out _; (with_reducible repeat (first | refine blk_drewN ?_ _ | refine blk_drew ?_ | refine blk_alloc ?_ _)); exact BK168.out) k_ hk, Kd.freshB (g := gb169) (o := .cells #[.int .i64 x170000_2, .string x170001_2, .int .i64 x170002_2, .int .i64 x170003_2, .string x170004_2, .slice none 0 0, .slice none 0 0] 25 (0, 0)) (by (with_reducible repeat (first | refine blk_drewN ?_ _ | refine blk_drew ?_ | refine blk_alloc ?_ _)); refine blk_far ?_ NB169_221.out _; refine blk_far ?_ NB169_221.out _; refine blk_far ?_ NB169_221.out _; refine blk_far ?_ NB169_221.out _; refine blk_far ?_ NB169_221.out _; refine blk_far ?_ NB169_221.out _; refine blk_far ?_ NB169_221.out _; (with_reducible repeat (first | refine blk_drewN ?_ _ | refine blk_drew ?_ | refine blk_alloc ?_ _)); exact BK169.out) k_ hk, Kd.freshB (g := gb207) (o := .cells #[.int .i64 x5_2, .string (⟨#[]⟩ : ByteArray), .int .i64 0, .int .i64 0, .string (⟨#[]⟩ : ByteArray), .slice none 0 0, u208006] 25 (0, 0)) (by (with_reducible repeat (first | refine blk_drewN ?_ _ | refine blk_drew ?_ | refine blk_alloc ?_ _)); refine blk_far ?_ NB207_221.out _; refine blk_far ?_ NB207_221.out _; refine blk_far ?_ NB207_221.out _; refine blk_far ?_ NB207_221.out _; refine blk_far ?_ NB207_221.out _; refine blk_far ?_ NB207_221.out _; refine blk_far ?_ NB207_221.out _; (with_reducible repeat (first | refine blk_drewN ?_ _ | refine blk_drew ?_ | refine blk_alloc ?_ _)); exact BK207.out) k_ hk, Kd.freshB (g := gb209) (o := .cells #[.int .i64 ((rd_T25 l0_6 x40_2).f0), .string ((rd_T25 l0_6 x40_2).f1), .int .i64 ((rd_T25 l0_6 x40_2).f2), .int .i64 ((rd_T25 l0_6 x40_2).f3), .string ((rd_T25 l0_6 x40_2).f4), .slice A208_5 ((rd_T25 l0_6 x40_2).f5).length c208_5, .slice A208_6 ((rd_T25 l0_6 x40_2).f6).length c208_6] 25 (0, 0)) (by (with_reducible repeat (first | refine blk_drewN ?_ _ | refine blk_drew ?_ | refine blk_alloc ?_ _)); refine blk_far ?_ NB209_221.out _; refine blk_far ?_ NB209_221.out _; refine blk_far ?_ NB209_221.out _; refine blk_far ?_ NB209_221.out _; refine blk_far ?_ NB209_221.out _; refine blk_far ?_ NB209_221.out _; refine blk_far ?_ NB209_221.out _; (with_reducible repeat (first | refine blk_drewN ?_ _ | refine blk_drew ?_ | refine blk_alloc ?_ _)); exact BK209.out) k_ hk, Kd.freshB (g := gb221) (o := .cells #[.int .i64 t210, .string t211, .int .i64 t212, .int .i64 t213, .string t214, .slice Ao63 t215.length co63, .slice Ao64 t218.length co64] 25 (0, 0)) (by (with_reducible repeat (first | refine blk_drewN ?_ _ | refine blk_drew ?_ | refine blk_alloc ?_ _)); apply puts_7; (with_reducible repeat (first | refine blk_drewN ?_ _ | refine blk_drew ?_ | refine blk_alloc ?_ _)); exact BK221.out) k_ hk⟩)); (case aO => exact (by (with_reducible repeat (first | apply Kd.N_alloc | apply Kd.N_drewN | apply Kd.N_drew)); exact Kd.N_mono (Kd.N_far (p := ⟨gb221, 6, none⟩) (Kd.N_far (p := ⟨gb221, 5, none⟩) (Kd.N_far (p := ⟨gb221, 4, none⟩) (Kd.N_far (p := ⟨gb221, 3, none⟩) (Kd.N_far (p := ⟨gb221, 2, none⟩) (Kd.N_far (p := ⟨gb221, 1, none⟩) (Kd.N_far (p := ⟨gb221, 0, none⟩) (Kd.N_mono HO_208006.out (fun k_ hk => (⟨hk, hk.2⟩ : _ ∧ k_ ≠ gb221))) (fun _ hk => hk.2) (.int .i64 t210)) (fun _ hk => hk.2) (.string t211)) (fun _ hk => hk.2) (.int .i64 t212)) (fun _ hk => hk.2) (.int .i64 t213)) (fun _ hk => hk.2) (.string t214)) (fun _ hk => hk.2) (.slice Ao63 t215.length co63)) (fun _ hk => hk.2) (.slice Ao64 t218.length co64)) (fun _ hk => ⟨hk.1.1.1.1, ⟨hk.1.1.1.2.1, ⟨hk.1.1.1.2.2.1, ⟨hk.1.1.1.2.2.2, ⟨hk.1.1.2, hk.1.2⟩⟩⟩⟩⟩))); (case aS => exact (below_size mZ)); (case aL => have := LMc50.out; omega); intro v223 w68 ho hb hg hat; rw [← Ny222.out] at ho; have n0_ := Aside0.mk (blk_grown (g := gb168) (o := .cells #[.int .i64 a0_0, .string a0_1, .int .i64 a0_2, .int .i64 a0_3, .string a0_4, .slice A0_5 l0_5.length c0_5, .slice (some ad208) l0_6.length c0_6] 25 (0, 0)) (by (with_reducible repeat (first | refine blk_drewN ?_ _ | refine blk_drew ?_ | refine blk_alloc ?_ _)); refine blk_far ?_ NB168_221.out _; refine blk_far ?_ NB168_221.out _; refine blk_far ?_ NB168_221.out _; refine blk_far ?_ NB168_221.out _; refine blk_far ?_ NB168_221.out _; refine blk_far ?_ NB168_221.out _; refine blk_far ?_ NB168_221.out _; (with_reducible repeat (first | refine blk_drewN ?_ _ | refine blk_drew ?_ | refine blk_alloc ?_ _)); exact BK168.out) hg (Kd.N_away HO_208006.out (fun _ hk => hk.1.1.2.1))); have n1_ := Aside0.mk (blk_grown (g := gb169) (o := .cells #[.int .i64 x170000_2, .string x170001_2, .int .i64 x170002_2, .int .i64 x170003_2, .string x170004_2, .slice none 0 0, .slice none 0 0] 25 (0, 0)) (by (with_reducible repeat (first | refine blk_drewN ?_ _ | refine blk_drew ?_ | refine blk_alloc ?_ _)); refine blk_far ?_ NB169_221.out _; refine blk_far ?_ NB169_221.out _; refine blk_far ?_ NB169_221.out _; refine blk_far ?_ NB169_221.out _; refine blk_far ?_ NB169_221.out _; refine blk_far ?_ NB169_221.out _; refine blk_far ?_ NB169_221.out _; (with_reducible repeat (first | refine blk_drewN ?_ _ | refine blk_drew ?_ | refine blk_alloc ?_ _)); exact BK169.out) hg (Kd.N_away HO_208006.out (fun _ hk => hk.1.1.2.2.1))); have n2_ := Aside0.mk (blk_grown (g := gb207) (o := .cells #[.int .i64 x5_2, .string (⟨#[]⟩ : ByteArray), .int .i64 0, .int .i64 0, .string (⟨#[]⟩ : ByteArray), .slice none 0 0, u208006] 25 (0, 0)) (by (with_reducible repeat (first | refine blk_drewN ?_ _ | refine blk_drew ?_ | refine blk_alloc ?_ _)); refine blk_far ?_ NB207_221.out _; refine blk_far ?_ NB207_221.out _; refine blk_far ?_ NB207_221.out _; refine blk_far ?_ NB207_221.out _; refine blk_far ?_ NB207_221.out _; refine blk_far ?_ NB207_221.out _; refine blk_far ?_ NB207_221.out _; (with_reducible repeat (first | refine blk_drewN ?_ _ | refine blk_drew ?_ | refine blk_alloc ?_ _)); exact BK207.out) hg (Kd.N_away HO_208006.out (fun _ hk => hk.1.1.2.2.2))); have n3_ := Aside0.mk (blk_grown (g := gb209) (o := .cells #[.int .i64 ((rd_T25 l0_6 x40_2).f0), .string ((rd_T25 l0_6 x40_2).f1), .int .i64 ((rd_T25 l0_6 x40_2).f2), .int .i64 ((rd_T25 l0_6 x40_2).f3), .string ((rd_T25 l0_6 x40_2).f4), .slice A208_5 ((rd_T25 l0_6 x40_2).f5).length c208_5, .slice A208_6 ((rd_T25 l0_6 x40_2).f6).length c208_6] 25 (0, 0)) (by (with_reducible repeat (first | refine blk_drewN ?_ _ | refine blk_drew ?_ | refine blk_alloc ?_ _)); refine blk_far ?_ NB209_221.out _; refine blk_far ?_ NB209_221.out _; refine blk_far ?_ NB209_221.out _; refine blk_far ?_ NB209_221.out _; refine blk_far ?_ NB209_221.out _; refine blk_far ?_ NB209_221.out _; refine blk_far ?_ NB209_221.out _; (with_reducible repeat (first | refine blk_drewN ?_ _ | refine blk_drew ?_ | refine blk_alloc ?_ _)); exact BK209.out) hg (Kd.N_away HO_208006.out (fun _ hk => hk.1.2))); have n6_ := Aside0.mk (blk_grown (g := gb221) (o := .cells #[.int .i64 t210, .string t211, .int .i64 t212, .int .i64 t213, .string t214, .slice Ao63 t215.length co63, .slice Ao64 t218.length co64] 25 (0, 0)) (by (with_reducible repeat (first | refine blk_drewN ?_ _ | refine blk_drew ?_ | refine blk_alloc ?_ _)); apply puts_7; (with_reducible repeat (first | refine blk_drewN ?_ _ | refine blk_drew ?_ | refine blk_alloc ?_ _)); exact BK221.out) hg (Kd.N_away HO_208006.out (fun _ hk => hk.2))); have n7_ := Aside0.mk (hb); have n8_ := Aside0.mk (ho); clear BK168; clear BK169; clear BK207; clear BK209; clear HO220; clear BK221; clear HB; clear HO_208006; have BK168 := n0_; have BK169 := n1_; have BK207 := n2_; have BK209 := n3_; have BK221 := n6_; have HB := n7_; have HO224 := n8_; clear n0_ n1_ n2_ n3_ n6_ n7_ n8_; clear ho hb hg hat; obtain ⟨Ao69, co69, eo69⟩ := Kd.N_slice HO224.out; subst eo69; obtain ⟨hcz70_0, hcz70_1, hcz70_2, hcz70_3, hcz70_4, hcz70_5, hcz70_6, hfz70_0, hfz70_1, hfz70_2, hfz70_3, hfz70_4, hfz70_5, hfz70_6⟩ := cells_7 BK207.out))
          go_roundg k2
          case measure => have := HJ2.out; have := HK2.out; omega
          case rel => exact ⟨(wrap64 (x40_2 + 1)), (y222), (.slice Ao69 y222.length co69), (by first | rfl | (simp; done) | (simp [*]; done)), H', ⟨by have := HJ2.out; have := HK2.out; omega⟩, ⟨by (with_reducible repeat (first | apply Kd.N_alloc | apply Kd.N_drewN | apply Kd.N_drew)); exact Kd.N_mono (Kd.N_far (p := ⟨gb207, 6, none⟩) (Kd.N_mono HO224.out (fun k_ hk => (⟨hk, hk.2.2.2.1⟩ : _ ∧ k_ ≠ gb207))) (fun _ hk => hk.2) (.slice Ao69 y222.length co69)) (fun _ hk => ⟨hk.1.1, ⟨hk.1.2.1, ⟨hk.1.2.2.1, hk.1.2.2.2.1⟩⟩⟩)⟩, ⟨by (with_reducible repeat (first | refine blk_drewN ?_ _ | refine blk_drew ?_ | refine blk_alloc ?_ _)); refine blk_far ?_ NB168_207.out _; (with_reducible repeat (first | refine blk_drewN ?_ _ | refine blk_drew ?_ | refine blk_alloc ?_ _)); exact BK168.out⟩, ⟨by (with_reducible repeat (first | refine blk_drewN ?_ _ | refine blk_drew ?_ | refine blk_alloc ?_ _)); refine blk_far ?_ NB169_207.out _; (with_reducible repeat (first | refine blk_drewN ?_ _ | refine blk_drew ?_ | refine blk_alloc ?_ _)); exact BK169.out⟩, ⟨by (with_reducible repeat (first | refine blk_drewN ?_ _ | refine blk_drew ?_ | refine blk_alloc ?_ _)); refine blk_put (cs := #[.int .i64 x5_2, .string (⟨#[]⟩ : ByteArray), .int .i64 0, .int .i64 0, .string (⟨#[]⟩ : ByteArray), .slice none 0 0, u208006]) ?_ 6 _ rfl; (with_reducible repeat (first | refine blk_drewN ?_ _ | refine blk_drew ?_ | refine blk_alloc ?_ _)); exact BK207.out⟩, ⟨mZ⟩⟩
         ·rw [if_neg c50] at H
          exact absurd H (by simp)
        ·rw [if_neg c49] at H
         have c49b0 : (t210 == x5_2) = false := beq_eq_false_iff_ne.mpr c49
         have c49b1 : (t210 != x5_2) = true := bne_iff_ne.mpr c49
         by_cases c71 : x208006_2.length < 1353245080339
         ·rw [if_pos c71] at H
          have LMc71 := Aside0.mk c71
          clear c71
          obtain ⟨y225, hy225⟩ : ∃ y_ : List (S25), y_ = (x208006_2 ++ [(⟨t210, t211, t212, t213, t214, t215, t218⟩ : S25)]) := ⟨_, rfl⟩
          replace H : (pred_normal.l0 k2 a1 x5_2 l0_6 (l0_6.length : Int) (wrap64 (x40_2 + 1)) x5_2 (⟨#[]⟩ : ByteArray) 0 0 (⟨#[]⟩ : ByteArray) y225) = some (r1, r2, r3, r4, r5, r6, r7) := by first | (rw [hy225]; with_reducible exact H) | (have H2_ := (Option.bind_some _ _).symm.trans H; rw [hy225]; with_reducible exact H2_) | (have H2_ := (Option.bind_some _ _).symm.trans H; with_reducible exact H2_) | with_reducible exact H | (rw [hy225]; exact H) | exact H
          have Ny225 := Aside0.mk hy225
          clear hy225
          have H' := Aside0.mk H
          clear H
          have p208 : 0 ≤ (x40_2 : Int) := of_decide_eq_true (by first | (with_reducible assumption) | assumption)
          have q208 : x40_2 < (l0_6.length : Int) := of_decide_eq_true (by first | (with_reducible assumption) | assumption)
          obtain ⟨ad208, A208_5, c208_5, A208_6, c208_6, e208, hx208_0, hx208_1, hx208_2, hx208_3, hx208_4, hx208_5, hx208_6, hl208_5, hi208_5, hl208_6, hi208_6⟩ := at_T25 HR0_6.out x40_2 p208 q208
          cases e208
          replace hx208_0 := (HB.out.cell (World.block_lt_of_cell? w _ hx208_0)).trans hx208_0
          replace hx208_1 := (HB.out.cell (World.block_lt_of_cell? w _ hx208_1)).trans hx208_1
          replace hx208_2 := (HB.out.cell (World.block_lt_of_cell? w _ hx208_2)).trans hx208_2
          replace hx208_3 := (HB.out.cell (World.block_lt_of_cell? w _ hx208_3)).trans hx208_3
          replace hx208_4 := (HB.out.cell (World.block_lt_of_cell? w _ hx208_4)).trans hx208_4
          replace hx208_5 := (HB.out.cell (World.block_lt_of_cell? w _ hx208_5)).trans hx208_5
          replace hx208_6 := (HB.out.cell (World.block_lt_of_cell? w _ hx208_6)).trans hx208_6
          have HR208_5 := Aside0.mk hi208_5
          have HC208_5 := Aside0.mk hl208_5
          clear hi208_5 hl208_5
          have HR208_6 := Aside0.mk hi208_6
          have HC208_6 := Aside0.mk hl208_6
          clear hi208_6 hl208_6
          replace p208 := eq_true p208
          replace q208 := eq_true q208
          go_wp2_with (first | ((with_reducible refine gate_dst (N := 8) rfl ?_); refine box_event ?hg (N := 8) ?hd (cs := #[.int .i64 0, .string (⟨#[]⟩ : ByteArray), .int .i64 0, .int .i64 0, .string (⟨#[]⟩ : ByteArray), .slice none 0 0, .slice none 0 0]) (t := 25) ?hr ?_; (case hd => rfl); (case hg => rfl); (case hr => first | (go_simp; done) | (go_simp; rfl)); intro gb209 hg w72 hbox hb; have n0_ := Aside0.mk (Kd.N_below (Kd.N_elderB (mN HO_208006.out) gb209 (Nat.le_of_eq hg.symm)) hb); have n1_ := Aside0.mk (blk_below (mK BK168.out) hb); have n2_ := Aside0.mk (blk_below (mK BK169.out) hb); have n3_ := Aside0.mk (blk_below (mK BK207.out) hb); have n4_ := Aside0.mk (below_step mZ hb); have n5_ := Aside0.mk (hbox); have n6_ := Aside0.mk ((by rw [hg]; exact (below_size mZ) : w.heap.size ≤ gb209)); have n7_ := n6_; have n8_ := Aside0.mk ((by rw [hg]; exact Nat.ne_of_lt (blk_lt (mK BK168.out)) : gb168 ≠ gb209)); have n9_ := Aside0.mk ((by rw [hg]; exact Nat.ne_of_gt (blk_lt (mK BK168.out)) : gb209 ≠ gb168)); have n10_ := Aside0.mk ((by rw [hg]; exact Nat.ne_of_lt (blk_lt (mK BK169.out)) : gb169 ≠ gb209)); have n11_ := Aside0.mk ((by rw [hg]; exact Nat.ne_of_gt (blk_lt (mK BK169.out)) : gb209 ≠ gb169)); have n12_ := Aside0.mk ((by rw [hg]; exact Nat.ne_of_lt (blk_lt (mK BK207.out)) : gb207 ≠ gb209)); have n13_ := Aside0.mk ((by rw [hg]; exact Nat.ne_of_gt (blk_lt (mK BK207.out)) : gb209 ≠ gb207)); clear HO_208006; clear BK168; clear BK169; clear BK207; clear HB; have HO_208006 := n0_; have BK168 := n1_; have BK169 := n2_; have BK207 := n3_; have HB := n4_; have BK209 := n5_; have GW209 := n6_; have GE209 := n7_; have NB168_209 := n8_; have NB209_168 := n9_; have NB169_209 := n10_; have NB209_169 := n11_; have NB207_209 := n12_; have NB209_207 := n13_; clear n0_ n1_ n2_ n3_ n4_ n5_ n6_ n7_ n8_ n9_ n10_ n11_ n12_ n13_; clear hb hbox hg; have hnb73 := NB209_168.out; have hnc73 := NB168_209.out; have hnb74 := NB209_169.out; have hnc74 := NB169_209.out; have hnb75 := NB209_207.out; have hnc75 := NB207_209.out; obtain ⟨hcz76_0, hcz76_1, hcz76_2, hcz76_3, hcz76_4, hcz76_5, hcz76_6, hfz76_0, hfz76_1, hfz76_2, hfz76_3, hfz76_4, hfz76_5, hfz76_6⟩ := cells_7 BK209.out) | ((with_reducible refine gate_callee (f := 28) rfl ?_); refine goesL_ (some 46) rfl rfl Try.func28 (by kernel_rfl) rfl #[.agg #[.int .i64 ((rd_T25 l0_6 x40_2).f0), .string ((rd_T25 l0_6 x40_2).f1), .int .i64 ((rd_T25 l0_6 x40_2).f2), .int .i64 ((rd_T25 l0_6 x40_2).f3), .string ((rd_T25 l0_6 x40_2).f4), .slice A208_5 ((rd_T25 l0_6 x40_2).f5).length c208_5, .slice A208_6 ((rd_T25 l0_6 x40_2).f6).length c208_6], .bool a1] rfl (by (try simp only [List.map_toArray, List.map_cons, List.map_nil]); first | done | rfl | (simp only [List.length_drop, List.length_take]; rfl)) ?_; (with_reducible refine (ih k2 (by have := HJ2.out; have := HK2.out; omega) ((rd_T25 l0_6 x40_2).f0) ((rd_T25 l0_6 x40_2).f1) ((rd_T25 l0_6 x40_2).f2) ((rd_T25 l0_6 x40_2).f3) ((rd_T25 l0_6 x40_2).f4) _ _ ((rd_T25 l0_6 x40_2).f5) _ _ ((rd_T25 l0_6 x40_2).f6) a1 t210 t211 t212 t213 t214 t215 t218 _ ?side1 ?side2 ?side3 ?side4 A48.out).mono ?_); (case side1 => exact Kd.C_below HR208_5.out mZ); (case side2 => first | exact HC208_5.out | exact Kd.V_mono HC208_5.out (fun k_ hk_ => by grind)); (case side3 => exact Kd.C_below HR208_6.out mZ); (case side4 => first | exact HC208_6.out | exact Kd.V_mono HC208_6.out (fun k_ hk_ => by grind)); rintro e w77 ⟨v216, v219, rfl, ho0, ho1, hb⟩; refine ⟨_, rfl, ?_⟩; have n0_ := Aside0.mk (Kd.N_below (by (with_reducible repeat (first | apply Kd.N_alloc | apply Kd.N_drewN | apply Kd.N_drew)); exact (Kd.N_mono (Kd.N_far (p := ⟨gb209, 6, none⟩) (Kd.N_far (p := ⟨gb209, 5, none⟩) (Kd.N_far (p := ⟨gb209, 4, none⟩) (Kd.N_far (p := ⟨gb209, 3, none⟩) (Kd.N_far (p := ⟨gb209, 2, none⟩) (Kd.N_far (p := ⟨gb209, 1, none⟩) (Kd.N_far (p := ⟨gb209, 0, none⟩) (Kd.N_mono HO_208006.out (fun k_ hk => (⟨hk, hk.2⟩ : _ ∧ k_ ≠ gb209))) (fun _ hk => hk.2) (.int .i64 ((rd_T25 l0_6 x40_2).f0))) (fun _ hk => hk.2) (.string ((rd_T25 l0_6 x40_2).f1))) (fun _ hk => hk.2) (.int .i64 ((rd_T25 l0_6 x40_2).f2))) (fun _ hk => hk.2) (.int .i64 ((rd_T25 l0_6 x40_2).f3))) (fun _ hk => hk.2) (.string ((rd_T25 l0_6 x40_2).f4))) (fun _ hk => hk.2) (.slice A208_5 ((rd_T25 l0_6 x40_2).f5).length c208_5)) (fun _ hk => hk.2) (.slice A208_6 ((rd_T25 l0_6 x40_2).f6).length c208_6)) (fun _ h_ => h_.1))) hb); have n1_ := Aside0.mk (Kd.V_lower (Kd.V_mono (ok' := fun k_ => (w.heap.size ≤ k_) ∧ some k_ ≠ (u208006 : Value).ownBlock ∧ k_ ≠ gb168 ∧ k_ ≠ gb169 ∧ k_ ≠ gb207 ∧ k_ ≠ gb209) ho0 (fun k_ hk_ => ⟨(Nat.le_trans (below_size mZ) hk_), (Kd.fresh' (Kd.N_lt (by (with_reducible repeat (first | apply Kd.N_alloc | apply Kd.N_drewN | apply Kd.N_drew)); exact (Kd.N_mono (Kd.N_far (p := ⟨gb209, 6, none⟩) (Kd.N_far (p := ⟨gb209, 5, none⟩) (Kd.N_far (p := ⟨gb209, 4, none⟩) (Kd.N_far (p := ⟨gb209, 3, none⟩) (Kd.N_far (p := ⟨gb209, 2, none⟩) (Kd.N_far (p := ⟨gb209, 1, none⟩) (Kd.N_far (p := ⟨gb209, 0, none⟩) (Kd.N_mono HO_208006.out (fun k_ hk => (⟨hk, hk.2⟩ : _ ∧ k_ ≠ gb209))) (fun _ hk => hk.2) (.int .i64 ((rd_T25 l0_6 x40_2).f0))) (fun _ hk => hk.2) (.string ((rd_T25 l0_6 x40_2).f1))) (fun _ hk => hk.2) (.int .i64 ((rd_T25 l0_6 x40_2).f2))) (fun _ hk => hk.2) (.int .i64 ((rd_T25 l0_6 x40_2).f3))) (fun _ hk => hk.2) (.string ((rd_T25 l0_6 x40_2).f4))) (fun _ hk => hk.2) (.slice A208_5 ((rd_T25 l0_6 x40_2).f5).length c208_5)) (fun _ hk => hk.2) (.slice A208_6 ((rd_T25 l0_6 x40_2).f6).length c208_6)) (fun _ h_ => h_.1)))) k_ hk_), (Kd.freshB (g := gb168) (o := .cells #[.int .i64 a0_0, .string a0_1, .int .i64 a0_2, .int .i64 a0_3, .string a0_4, .slice A0_5 l0_5.length c0_5, .slice (some ad208) l0_6.length c0_6] 25 (0, 0)) (by (with_reducible repeat (first | refine blk_drewN ?_ _ | refine blk_drew ?_ | refine blk_alloc ?_ _)); refine blk_far ?_ NB168_209.out _; refine blk_far ?_ NB168_209.out _; refine blk_far ?_ NB168_209.out _; refine blk_far ?_ NB168_209.out _; refine blk_far ?_ NB168_209.out _; refine blk_far ?_ NB168_209.out _; refine blk_far ?_ NB168_209.out _; (with_reducible repeat (first | refine blk_drewN ?_ _ | refine blk_drew ?_ | refine blk_alloc ?_ _)); exact BK168.out) k_ hk_), (Kd.freshB (g := gb169) (o := .cells #[.int .i64 x170000_2, .string x170001_2, .int .i64 x170002_2, .int .i64 x170003_2, .string x170004_2, .slice none 0 0, .slice none 0 0] 25 (0, 0)) (by (with_reducible repeat (first | refine blk_drewN ?_ _ | refine blk_drew ?_ | refine blk_alloc ?_ _)); refine blk_far ?_ NB169_209.out _; refine blk_far ?_ NB169_209.out _; refine blk_far ?_ NB169_209.out _; refine blk_far ?_ NB169_209.out _; refine blk_far ?_ NB169_209.out _; refine blk_far ?_ NB169_209.out _; refine blk_far ?_ NB169_209.out _; (with_reducible repeat (first | refine blk_drewN ?_ _ | refine blk_drew ?_ | refine blk_alloc ?_ _)); exact BK169.out) k_ hk_), (Kd.freshB (g := gb207) (o := .cells #[.int .i64 x5_2, .string (⟨#[]⟩ : ByteArray), .int .i64 0, .int .i64 0, .string (⟨#[]⟩ : ByteArray), .slice none 0 0, u208006] 25 (0, 0)) (by (with_reducible repeat (first | refine blk_drewN ?_ _ | refine blk_drew ?_ | refine blk_alloc ?_ _)); refine blk_far ?_ NB207_209.out _; refine blk_far ?_ NB207_209.out _; refine blk_far ?_ NB207_209.out _; refine blk_far ?_ NB207_209.out _; refine blk_far ?_ NB207_209.out _; refine blk_far ?_ NB207_209.out _; refine blk_far ?_ NB207_209.out _; (with_reducible repeat (first | refine blk_drewN ?_ _ | refine blk_drew ?_ | refine blk_alloc ?_ _)); exact BK207.out) k_ hk_), (Kd.freshB (g := gb209) (o := .cells #[.int .i64 ((rd_T25 l0_6 x40_2).f0), .string ((rd_T25 l0_6 x40_2).f1), .int .i64 ((rd_T25 l0_6 x40_2).f2), .int .i64 ((rd_T25 l0_6 x40_2).f3), .string ((rd_T25 l0_6 x40_2).f4), .slice A208_5 ((rd_T25 l0_6 x40_2).f5).length c208_5, .slice A208_6 ((rd_T25 l0_6 x40_2).f6).length c208_6] 25 (0, 0)) (by (with_reducible repeat (first | refine blk_drewN ?_ _ | refine blk_drew ?_ | refine blk_alloc ?_ _)); apply puts_7; (with_reducible repeat (first | refine blk_drewN ?_ _ | refine blk_drew ?_ | refine blk_alloc ?_ _)); exact BK209.out) k_ hk_)⟩)) (below_size mZ)); have n2_ := Aside0.mk (Kd.V_lower (Kd.V_mono (ok' := fun k_ => (w.heap.size ≤ k_) ∧ some k_ ≠ (u208006 : Value).ownBlock ∧ k_ ≠ gb168 ∧ k_ ≠ gb169 ∧ k_ ≠ gb207 ∧ k_ ≠ gb209) ho1 (fun k_ hk_ => ⟨(Nat.le_trans (below_size mZ) hk_), (Kd.fresh' (Kd.N_lt (by (with_reducible repeat (first | apply Kd.N_alloc | apply Kd.N_drewN | apply Kd.N_drew)); exact (Kd.N_mono (Kd.N_far (p := ⟨gb209, 6, none⟩) (Kd.N_far (p := ⟨gb209, 5, none⟩) (Kd.N_far (p := ⟨gb209, 4, none⟩) (Kd.N_far (p := ⟨gb209, 3, none⟩) (Kd.N_far (p := ⟨gb209, 2, none⟩) (Kd.N_far (p := ⟨gb209, 1, none⟩) (Kd.N_far (p := ⟨gb209, 0, none⟩) (Kd.N_mono HO_208006.out (fun k_ hk => (⟨hk, hk.2⟩ : _ ∧ k_ ≠ gb209))) (fun _ hk => hk.2) (.int .i64 ((rd_T25 l0_6 x40_2).f0))) (fun _ hk => hk.2) (.string ((rd_T25 l0_6 x40_2).f1))) (fun _ hk => hk.2) (.int .i64 ((rd_T25 l0_6 x40_2).f2))) (fun _ hk => hk.2) (.int .i64 ((rd_T25 l0_6 x40_2).f3))) (fun _ hk => hk.2) (.string ((rd_T25 l0_6 x40_2).f4))) (fun _ hk => hk.2) (.slice A208_5 ((rd_T25 l0_6 x40_2).f5).length c208_5)) (fun _ hk => hk.2) (.slice A208_6 ((rd_T25 l0_6 x40_2).f6).length c208_6)) (fun _ h_ => h_.1)))) k_ hk_), (Kd.freshB (g := gb168) (o := .cells #[.int .i64 a0_0, .string a0_1, .int .i64 a0_2, .int .i64 a0_3, .string a0_4, .slice A0_5 l0_5.length c0_5, .slice (some ad208) l0_6.length c0_6] 25 (0, 0)) (by (with_reducible repeat (first | refine blk_drewN ?_ _ | refine blk_drew ?_ | refine blk_alloc ?_ _)); refine blk_far ?_ NB168_209.out _; refine blk_far ?_ NB168_209.out _; refine blk_far ?_ NB168_209.out _; refine blk_far ?_ NB168_209.out _; refine blk_far ?_ NB168_209.out _; refine blk_far ?_ NB168_209.out _; refine blk_far ?_ NB168_209.out _; (with_reducible repeat (first | refine blk_drewN ?_ _ | refine blk_drew ?_ | refine blk_alloc ?_ _)); exact BK168.out) k_ hk_), (Kd.freshB (g := gb169) (o := .cells #[.int .i64 x170000_2, .string x170001_2, .int .i64 x170002_2, .int .i64 x170003_2, .string x170004_2, .slice none 0 0, .slice none 0 0] 25 (0, 0)) (by (with_reducible repeat (first | refine blk_drewN ?_ _ | refine blk_drew ?_ | refine blk_alloc ?_ _)); refine blk_far ?_ NB169_209.out _; refine blk_far ?_ NB169_209.out _; refine blk_far ?_ NB169_209.out _; refine blk_far ?_ NB169_209.out _; refine blk_far ?_ NB169_209.out _; refine blk_far ?_ NB169_209.out _; refine blk_far ?_ NB169_209.out _; (with_reducible repeat (first | refine blk_drewN ?_ _ | refine blk_drew ?_ | refine blk_alloc ?_ _)); exact BK169.out) k_ hk_), (Kd.freshB (g := gb207) (o := .cells #[.int .i64 x5_2, .string (⟨#[]⟩ : ByteArray), .int .i64 0, .int .i64 0, .string (⟨#[]⟩ : ByteArray), .slice none 0 0, u208006] 25 (0, 0)) (by (with_reducible repeat (first | refine blk_drewN ?_ _ | refine blk_drew ?_ | refine blk_alloc ?_ _)); refine blk_far ?_ NB207_209.out _; refine blk_far ?_ NB207_209.out _; refine blk_far ?_ NB207_209.out _; refine blk_far ?_ NB207_209.out _; refine blk_far ?_ NB207_209.out _; refine blk_far ?_ NB207_209.out _; refine blk_far ?_ NB207_209.out _; (with_reducible repeat (first | refine blk_drewN ?_ _ | refine blk_drew ?_ | refine blk_alloc ?_ _)); exact BK207.out) k_ hk_), (Kd.freshB (g := gb209) (o := .cells #[.int .i64 ((rd_T25 l0_6 x40_2).f0), .string ((rd_T25 l0_6 x40_2).f1), .int .i64 ((rd_T25 l0_6 x40_2).f2), .int .i64 ((rd_T25 l0_6 x40_2).f3), .string ((rd_T25 l0_6 x40_2).f4), .slice A208_5 ((rd_T25 l0_6 x40_2).f5).length c208_5, .slice A208_6 ((rd_T25 l0_6 x40_2).f6).length c208_6] 25 (0, 0)) (by (with_reducible repeat (first | refine blk_drewN ?_ _ | refine blk_drew ?_ | refine blk_alloc ?_ _)); apply puts_7; (with_reducible repeat (first | refine blk_drewN ?_ _ | refine blk_drew ?_ | refine blk_alloc ?_ _)); exact BK209.out) k_ hk_)⟩)) (below_size mZ)); have n3_ := Aside0.mk (blk_below (g := gb168) (o := .cells #[.int .i64 a0_0, .string a0_1, .int .i64 a0_2, .int .i64 a0_3, .string a0_4, .slice A0_5 l0_5.length c0_5, .slice (some ad208) l0_6.length c0_6] 25 (0, 0)) (by (with_reducible repeat (first | refine blk_drewN ?_ _ | refine blk_drew ?_ | refine blk_alloc ?_ _)); refine blk_far ?_ NB168_209.out _; refine blk_far ?_ NB168_209.out _; refine blk_far ?_ NB168_209.out _; refine blk_far ?_ NB168_209.out _; refine blk_far ?_ NB168_209.out _; refine blk_far ?_ NB168_209.out _; refine blk_far ?_ NB168_209.out _; (with_reducible repeat (first | refine blk_drewN ?_ _ | refine blk_drew ?_ | refine blk_alloc ?_ _)); exact BK168.out) hb); have n4_ := Aside0.mk (blk_below (g := gb169) (o := .cells #[.int .i64 x170000_2, .string x170001_2, .int .i64 x170002_2, .int .i64 x170003_2, .string x170004_2, .slice none 0 0, .slice none 0 0] 25 (0, 0)) (by (with_reducible repeat (first | refine blk_drewN ?_ _ | refine blk_drew ?_ | refine blk_alloc ?_ _)); refine blk_far ?_ NB169_209.out _; refine blk_far ?_ NB169_209.out _; refine blk_far ?_ NB169_209.out _; refine blk_far ?_ NB169_209.out _; refine blk_far ?_ NB169_209.out _; refine blk_far ?_ NB169_209.out _; refine blk_far ?_ NB169_209.out _; (with_reducible repeat (first | refine blk_drewN ?_ _ | refine blk_drew ?_ | refine blk_alloc ?_ _)); exact BK169.out) hb); have n5_ := Aside0.mk (blk_below (g := gb207) (o := .cells #[.int .i64 x5_2, .string (⟨#[]⟩ : ByteArray), .int .i64 0, .int .i64 0, .string (⟨#[]⟩ : ByteArray), .slice none 0 0, u208006] 25 (0, 0)) (by (with_reducible repeat (first | refine blk_drewN ?_ _ | refine blk_drew ?_ | refine blk_alloc ?_ _)); refine blk_far ?_ NB207_209.out _; refine blk_far ?_ NB207_209.out _; refine blk_far ?_ NB207_209.out _; refine blk_far ?_ NB207_209.out _; refine blk_far ?_ NB207_209.out _; refine blk_far ?_ NB207_209.out _; refine blk_far ?_ NB207_209.out _; (with_reducible repeat (first | refine blk_drewN ?_ _ | refine blk_drew ?_ | refine blk_alloc ?_ _)); exact BK207.out) hb); have n6_ := Aside0.mk (blk_below (g := gb209) (o := .cells #[.int .i64 ((rd_T25 l0_6 x40_2).f0), .string ((rd_T25 l0_6 x40_2).f1), .int .i64 ((rd_T25 l0_6 x40_2).f2), .int .i64 ((rd_T25 l0_6 x40_2).f3), .string ((rd_T25 l0_6 x40_2).f4), .slice A208_5 ((rd_T25 l0_6 x40_2).f5).length c208_5, .slice A208_6 ((rd_T25 l0_6 x40_2).f6).length c208_6] 25 (0, 0)) (by (with_reducible repeat (first | refine blk_drewN ?_ _ | refine blk_drew ?_ | refine blk_alloc ?_ _)); apply puts_7; (with_reducible repeat (first | refine blk_drewN ?_ _ | refine blk_drew ?_ | refine blk_alloc ?_ _)); exact BK209.out) hb); have n7_ := Aside0.mk (below_step mZ hb); clear HO_208006; clear BK168; clear BK169; clear BK207; clear BK209; clear HB; have HO_208006 := n0_; have HO217 := n1_; have HO220 := n2_; have BK168 := n3_; have BK169 := n4_; have BK207 := n5_; have BK209 := n6_; have HB := n7_; clear n0_ n1_ n2_ n3_ n4_ n5_ n6_ n7_; (try clear hb); (try clear hb2); (try clear hk); (try clear hi); (try clear ho0); (try clear ho1)) | ((with_reducible refine gate_dst (N := 9) rfl ?_); refine box_event ?hg (N := 9) ?hd (cs := #[.int .i64 0, .string (⟨#[]⟩ : ByteArray), .int .i64 0, .int .i64 0, .string (⟨#[]⟩ : ByteArray), .slice none 0 0, .slice none 0 0]) (t := 25) ?hr ?_; (case hd => rfl); (case hg => rfl); (case hr => first | (go_simp; done) | (go_simp; rfl)); intro gb221 hg w78 hbox hb; have n0_ := Aside0.mk (Kd.N_below (Kd.N_elderB (mN HO_208006.out) gb221 (Nat.le_of_eq hg.symm)) hb); have n1_ := Aside0.mk (Kd.V_below (Kd.V_elderB (mV HO217.out) gb221 (Nat.le_of_eq hg.symm)) hb); have n2_ := Aside0.mk (Kd.V_below (Kd.V_elderB (mV HO220.out) gb221 (Nat.le_of_eq hg.symm)) hb); have n3_ := Aside0.mk (blk_below (mK BK168.out) hb); have n4_ := Aside0.mk (blk_below (mK BK169.out) hb); have n5_ := Aside0.mk (blk_below (mK BK207.out) hb); have n6_ := Aside0.mk (blk_below (mK BK209.out) hb); have n7_ := Aside0.mk (below_step mZ hb); have n8_ := Aside0.mk (hbox); have n9_ := Aside0.mk ((by rw [hg]; exact (below_size mZ) : w.heap.size ≤ gb221)); have n10_ := n9_; have n11_ := Aside0.mk ((by rw [hg]; exact Nat.ne_of_lt (blk_lt (mK BK168.out)) : gb168 ≠ gb221)); have n12_ := Aside0.mk ((by rw [hg]; exact Nat.ne_of_gt (blk_lt (mK BK168.out)) : gb221 ≠ gb168)); have n13_ := Aside0.mk ((by rw [hg]; exact Nat.ne_of_lt (blk_lt (mK BK169.out)) : gb169 ≠ gb221)); have n14_ := Aside0.mk ((by rw [hg]; exact Nat.ne_of_gt (blk_lt (mK BK169.out)) : gb221 ≠ gb169)); have n15_ := Aside0.mk ((by rw [hg]; exact Nat.ne_of_lt (blk_lt (mK BK207.out)) : gb207 ≠ gb221)); have n16_ := Aside0.mk ((by rw [hg]; exact Nat.ne_of_gt (blk_lt (mK BK207.out)) : gb221 ≠ gb207)); have n17_ := Aside0.mk ((by rw [hg]; exact Nat.ne_of_lt (blk_lt (mK BK209.out)) : gb209 ≠ gb221)); have n18_ := Aside0.mk ((by rw [hg]; exact Nat.ne_of_gt (blk_lt (mK BK209.out)) : gb221 ≠ gb209)); clear HO_208006; clear HO217; clear HO220; clear BK168; clear BK169; clear BK207; clear BK209; clear HB; have HO_208006 := n0_; have HO217 := n1_; have HO220 := n2_; have BK168 := n3_; have BK169 := n4_; have BK207 := n5_; have BK209 := n6_; have HB := n7_; have BK221 := n8_; have GW221 := n9_; have GE221 := n10_; have NB168_221 := n11_; have NB221_168 := n12_; have NB169_221 := n13_; have NB221_169 := n14_; have NB207_221 := n15_; have NB221_207 := n16_; have NB209_221 := n17_; have NB221_209 := n18_; clear n0_ n1_ n2_ n3_ n4_ n5_ n6_ n7_ n8_ n9_ n10_ n11_ n12_ n13_ n14_ n15_ n16_ n17_ n18_; clear hb hbox hg; have hnb79 := NB221_168.out; have hnc79 := NB168_221.out; have hnb80 := NB221_169.out; have hnc80 := NB169_221.out; have hnb81 := NB221_207.out; have hnc81 := NB207_221.out; have hnb82 := NB221_209.out; have hnc82 := NB209_221.out; obtain ⟨hcz83_0, hcz83_1, hcz83_2, hcz83_3, hcz83_4, hcz83_5, hcz83_6, hfz83_0, hfz83_1, hfz83_2, hfz83_3, hfz83_4, hfz83_5, hfz83_6⟩ := cells_7 BK221.out; obtain ⟨Ao84, co84, eo84⟩ := Kd.V_slice HO217.out; subst eo84; obtain ⟨Ao85, co85, eo85⟩ := Kd.V_slice HO220.out; subst eo85) | ((with_reducible refine gate_store (t := 25) (p := 9) rfl ?_); refine store_event (t := 25) (p := 9) (v := ?vo_w86) (w1 := (((((((w78.setCell ⟨gb221, 0, none⟩ (.int .i64 t210)).setCell ⟨gb221, 1, none⟩ (.string t211)).setCell ⟨gb221, 2, none⟩ (.int .i64 t212)).setCell ⟨gb221, 3, none⟩ (.int .i64 t213)).setCell ⟨gb221, 4, none⟩ (.string t214)).setCell ⟨gb221, 5, none⟩ (.slice Ao84 t215.length co84)).setCell ⟨gb221, 6, none⟩ (.slice Ao85 t218.length co85))) ?hg ?ho ?hn ?hr ?_; (case ho => rfl); (case hg => rfl); (case hn => rfl); (case hr => first | (go_simp; done) | (go_simp; rfl)); intro w86 hw; have n0_ : Aside0 (Kd.N k25 25 w86 w.heap.size (fun k_ => (w.heap.size ≤ k_) ∧ k_ ≠ gb168 ∧ k_ ≠ gb169 ∧ k_ ≠ gb207 ∧ k_ ≠ gb209 ∧ k_ ≠ gb221) u208006 x208006_2) := ⟨(by rw [hw]; exact (by (with_reducible repeat (first | apply Kd.N_alloc | apply Kd.N_drewN | apply Kd.N_drew)); exact Kd.N_mono (Kd.N_far (p := ⟨gb221, 6, none⟩) (Kd.N_far (p := ⟨gb221, 5, none⟩) (Kd.N_far (p := ⟨gb221, 4, none⟩) (Kd.N_far (p := ⟨gb221, 3, none⟩) (Kd.N_far (p := ⟨gb221, 2, none⟩) (Kd.N_far (p := ⟨gb221, 1, none⟩) (Kd.N_far (p := ⟨gb221, 0, none⟩) (Kd.N_mono HO_208006.out (fun k_ hk => (⟨hk, hk.2⟩ : _ ∧ k_ ≠ gb221))) (fun _ hk => hk.2) (.int .i64 t210)) (fun _ hk => hk.2) (.string t211)) (fun _ hk => hk.2) (.int .i64 t212)) (fun _ hk => hk.2) (.int .i64 t213)) (fun _ hk => hk.2) (.string t214)) (fun _ hk => hk.2) (.slice Ao84 t215.length co84)) (fun _ hk => hk.2) (.slice Ao85 t218.length co85)) (fun _ hk => ⟨hk.1.1.1.1, ⟨hk.1.1.1.2.1, ⟨hk.1.1.1.2.2.1, ⟨hk.1.1.1.2.2.2, ⟨hk.1.1.2, hk.1.2⟩⟩⟩⟩⟩)))⟩; have n1_ : Aside0 (Kd.V Kd.string 9 w86 w.heap.size (fun k_ => (w.heap.size ≤ k_) ∧ some k_ ≠ (u208006 : Value).ownBlock ∧ k_ ≠ gb168 ∧ k_ ≠ gb169 ∧ k_ ≠ gb207 ∧ k_ ≠ gb209 ∧ k_ ≠ gb221) (.slice Ao84 t215.length co84) t215) := ⟨(by rw [hw]; exact (by (with_reducible repeat (first | apply Kd.V_alloc | apply Kd.V_drewN | apply Kd.V_drew)); exact Kd.V_mono (Kd.V_far (p := ⟨gb221, 6, none⟩) (Kd.V_far (p := ⟨gb221, 5, none⟩) (Kd.V_far (p := ⟨gb221, 4, none⟩) (Kd.V_far (p := ⟨gb221, 3, none⟩) (Kd.V_far (p := ⟨gb221, 2, none⟩) (Kd.V_far (p := ⟨gb221, 1, none⟩) (Kd.V_far (p := ⟨gb221, 0, none⟩) (Kd.V_mono HO217.out (fun k_ hk => (⟨hk, hk.2⟩ : _ ∧ k_ ≠ gb221))) (fun _ hk => hk.2) (.int .i64 t210)) (fun _ hk => hk.2) (.string t211)) (fun _ hk => hk.2) (.int .i64 t212)) (fun _ hk => hk.2) (.int .i64 t213)) (fun _ hk => hk.2) (.string t214)) (fun _ hk => hk.2) (.slice Ao84 t215.length co84)) (fun _ hk => hk.2) (.slice Ao85 t218.length co85)) (fun _ hk => ⟨hk.1.1.1, ⟨hk.1.1.2.1, ⟨hk.1.1.2.2.1, ⟨hk.1.1.2.2.2.1, ⟨hk.1.1.2.2.2.2.1, ⟨hk.1.1.2.2.2.2.2, hk.1.2⟩⟩⟩⟩⟩⟩)))⟩; have n2_ : Aside0 (Kd.V k25 25 w86 w.heap.size (fun k_ => (w.heap.size ≤ k_) ∧ some k_ ≠ (u208006 : Value).ownBlock ∧ k_ ≠ gb168 ∧ k_ ≠ gb169 ∧ k_ ≠ gb207 ∧ k_ ≠ gb209 ∧ k_ ≠ gb221) (.slice Ao85 t218.length co85) t218) := ⟨(by rw [hw]; exact (by (with_reducible repeat (first | apply Kd.V_alloc | apply Kd.V_drewN | apply Kd.V_drew)); exact Kd.V_mono (Kd.V_far (p := ⟨gb221, 6, none⟩) (Kd.V_far (p := ⟨gb221, 5, none⟩) (Kd.V_far (p := ⟨gb221, 4, none⟩) (Kd.V_far (p := ⟨gb221, 3, none⟩) (Kd.V_far (p := ⟨gb221, 2, none⟩) (Kd.V_far (p := ⟨gb221, 1, none⟩) (Kd.V_far (p := ⟨gb221, 0, none⟩) (Kd.V_mono HO220.out (fun k_ hk => (⟨hk, hk.2⟩ : _ ∧ k_ ≠ gb221))) (fun _ hk => hk.2) (.int .i64 t210)) (fun _ hk => hk.2) (.string t211)) (fun _ hk => hk.2) (.int .i64 t212)) (fun _ hk => hk.2) (.int .i64 t213)) (fun _ hk => hk.2) (.string t214)) (fun _ hk => hk.2) (.slice Ao84 t215.length co84)) (fun _ hk => hk.2) (.slice Ao85 t218.length co85)) (fun _ hk => ⟨hk.1.1.1, ⟨hk.1.1.2.1, ⟨hk.1.1.2.2.1, ⟨hk.1.1.2.2.2.1, ⟨hk.1.1.2.2.2.2.1, ⟨hk.1.1.2.2.2.2.2, hk.1.2⟩⟩⟩⟩⟩⟩)))⟩; have n3_ : Aside0 (w86.heap[gb168]? = some (.cells #[.int .i64 a0_0, .string a0_1, .int .i64 a0_2, .int .i64 a0_3, .string a0_4, .slice A0_5 l0_5.length c0_5, .slice (some ad208) l0_6.length c0_6] 25 (0, 0))) := ⟨(by rw [hw]; exact (by (with_reducible repeat (first | refine blk_drewN ?_ _ | refine blk_drew ?_ | refine blk_alloc ?_ _)); refine blk_far ?_ NB168_221.out _; refine blk_far ?_ NB168_221.out _; refine blk_far ?_ NB168_221.out _; refine blk_far ?_ NB168_221.out _; refine blk_far ?_ NB168_221.out _; refine blk_far ?_ NB168_221.out _; refine blk_far ?_ NB168_221.out _; (with_reducible repeat (first | refine blk_drewN ?_ _ | refine blk_drew ?_ | refine blk_alloc ?_ _)); exact BK168.out))⟩; have n4_ : Aside0 (w86.heap[gb169]? = some (.cells #[.int .i64 x170000_2, .string x170001_2, .int .i64 x170002_2, .int .i64 x170003_2, .string x170004_2, .slice none 0 0, .slice none 0 0] 25 (0, 0))) := ⟨(by rw [hw]; exact (by (with_reducible repeat (first | refine blk_drewN ?_ _ | refine blk_drew ?_ | refine blk_alloc ?_ _)); refine blk_far ?_ NB169_221.out _; refine blk_far ?_ NB169_221.out _; refine blk_far ?_ NB169_221.out _; refine blk_far ?_ NB169_221.out _; refine blk_far ?_ NB169_221.out _; refine blk_far ?_ NB169_221.out _; refine blk_far ?_ NB169_221.out _; (with_reducible repeat (first | refine blk_drewN ?_ _ | refine blk_drew ?_ | refine blk_alloc ?_ _)); exact BK169.out))⟩; have n5_ : Aside0 (w86.heap[gb207]? = some (.cells #[.int .i64 x5_2, .string (⟨#[]⟩ : ByteArray), .int .i64 0, .int .i64 0, .string (⟨#[]⟩ : ByteArray), .slice none 0 0, u208006] 25 (0, 0))) := ⟨(by rw [hw]; exact (by (with_reducible repeat (first | refine blk_drewN ?_ _ | refine blk_drew ?_ | refine blk_alloc ?_ _)); refine blk_far ?_ NB207_221.out _; refine blk_far ?_ NB207_221.out _; refine blk_far ?_ NB207_221.out _; refine blk_far ?_ NB207_221.out _; refine blk_far ?_ NB207_221.out _; refine blk_far ?_ NB207_221.out _; refine blk_far ?_ NB207_221.out _; (with_reducible repeat (first | refine blk_drewN ?_ _ | refine blk_drew ?_ | refine blk_alloc ?_ _)); exact BK207.out))⟩; have n6_ : Aside0 (w86.heap[gb209]? = some (.cells #[.int .i64 ((rd_T25 l0_6 x40_2).f0), .string ((rd_T25 l0_6 x40_2).f1), .int .i64 ((rd_T25 l0_6 x40_2).f2), .int .i64 ((rd_T25 l0_6 x40_2).f3), .string ((rd_T25 l0_6 x40_2).f4), .slice A208_5 ((rd_T25 l0_6 x40_2).f5).length c208_5, .slice A208_6 ((rd_T25 l0_6 x40_2).f6).length c208_6] 25 (0, 0))) := ⟨(by rw [hw]; exact (by (with_reducible repeat (first | refine blk_drewN ?_ _ | refine blk_drew ?_ | refine blk_alloc ?_ _)); refine blk_far ?_ NB209_221.out _; refine blk_far ?_ NB209_221.out _; refine blk_far ?_ NB209_221.out _; refine blk_far ?_ NB209_221.out _; refine blk_far ?_ NB209_221.out _; refine blk_far ?_ NB209_221.out _; refine blk_far ?_ NB209_221.out _; (with_reducible repeat (first | refine blk_drewN ?_ _ | refine blk_drew ?_ | refine blk_alloc ?_ _)); exact BK209.out))⟩; have n7_ : Aside0 (w86.heap[gb221]? = some (.cells #[.int .i64 t210, .string t211, .int .i64 t212, .int .i64 t213, .string t214, .slice Ao84 t215.length co84, .slice Ao85 t218.length co85] 25 (0, 0))) := ⟨(by rw [hw]; exact (by (with_reducible repeat (first | refine blk_drewN ?_ _ | refine blk_drew ?_ | refine blk_alloc ?_ _)); apply puts_7; (with_reducible repeat (first | refine blk_drewN ?_ _ | refine blk_drew ?_ | refine blk_alloc ?_ _)); exact BK221.out))⟩; have n8_ : Aside0 (Below w.heap.size w w86) := ⟨(by rw [hw]; exact mZ)⟩; clear hw; clear HO_208006; clear HO217; clear HO220; clear BK168; clear BK169; clear BK207; clear BK209; clear BK221; clear HB; have HO_208006 := n0_; have HO217 := n1_; have HO220 := n2_; have BK168 := n3_; have BK169 := n4_; have BK207 := n5_; have BK209 := n6_; have BK221 := n7_; have HB := n8_; clear n0_ n1_ n2_ n3_ n4_ n5_ n6_ n7_ n8_; obtain ⟨hcz87_0, hcz87_1, hcz87_2, hcz87_3, hcz87_4, hcz87_5, hcz87_6, hfz87_0, hfz87_1, hfz87_2, hfz87_3, hfz87_4, hfz87_5, hfz87_6⟩ := cells_7 BK221.out; have hnb88 := NB207_168.out; have hnc88 := NB168_207.out; have hnb89 := NB207_169.out; have hnc89 := NB169_207.out; obtain ⟨hcz90_0, hcz90_1, hcz90_2, hcz90_3, hcz90_4, hcz90_5, hcz90_6, hfz90_0, hfz90_1, hfz90_2, hfz90_3, hfz90_4, hfz90_5, hfz90_6⟩ := cells_7 BK207.out) | ((with_reducible refine gate_builtin (b := .append) (xs := #[.tmp 58, .tmp 60]) rfl ?_); at_builtin; refine Kd.N_append k25 (w0 := w) w.heap.size rfl (.tmp 58) (.tmp 60) 23 25 (.agg #[(.int .i64 0), (.string ⟨#[]⟩), (.int .i64 0), (.int .i64 0), (.string ⟨#[]⟩), (.slice none 0 0), (.slice none 0 0)]) 104 rfl Try.underlying23 info25 rfl (by decide) (by omega) u208006 x208006_2 (⟨t210, t211, t212, t213, t214, t215, t218⟩ : S25) [.int .i64 t210, .string t211, .int .i64 t212, .int .i64 t213, .string t214, .slice Ao84 t215.length co84, .slice Ao85 t218.length co85] (fun k_ => (w.heap.size ≤ k_) ∧ k_ ≠ gb168 ∧ k_ ≠ gb169 ∧ k_ ≠ gb207 ∧ k_ ≠ gb209 ∧ k_ ≠ gb221) (fun k_ => ((fun k_ => (w.heap.size ≤ k_) ∧ k_ ≠ gb168 ∧ k_ ≠ gb169 ∧ k_ ≠ gb207 ∧ k_ ≠ gb209 ∧ k_ ≠ gb221)) k_ ∧ some k_ ≠ (u208006 : Value).ownBlock) rfl rfl ?aP (fun _ hk => hk) ?aF ?aO ?aB ?aS ?aL ?_; (case aP => exact (k25_mkF _ _ (⟨t210, t211, t212, t213, t214, t215, t218⟩ : S25) (Kd.V_reads' (Kd.V_mono (ok' := (fun k_ => ((fun k_ => (w.heap.size ≤ k_) ∧ k_ ≠ gb168 ∧ k_ ≠ gb169 ∧ k_ ≠ gb207 ∧ k_ ≠ gb209 ∧ k_ ≠ gb221)) k_ ∧ some k_ ≠ (u208006 : Value).ownBlock)) (HO217.out) (fun k_ hk => ⟨⟨hk.1, ⟨hk.2.2.1, ⟨hk.2.2.2.1, ⟨hk.2.2.2.2.1, ⟨hk.2.2.2.2.2.1, hk.2.2.2.2.2.2⟩⟩⟩⟩⟩, hk.2.1⟩))).2.1 (Kd.V_F (by (with_reducible repeat (first | apply Kd.V_alloc | apply Kd.V_drewN | apply Kd.V_drew)); exact (Kd.V_mono (ok' := (fun k_ => ((fun k_ => (w.heap.size ≤ k_) ∧ k_ ≠ gb168 ∧ k_ ≠ gb169 ∧ k_ ≠ gb207 ∧ k_ ≠ gb209 ∧ k_ ≠ gb221)) k_ ∧ some k_ ≠ (u208006 : Value).ownBlock)) (HO217.out) (fun k_ hk => ⟨⟨hk.1, ⟨hk.2.2.1, ⟨hk.2.2.2.1, ⟨hk.2.2.2.2.1, ⟨hk.2.2.2.2.2.1, hk.2.2.2.2.2.2⟩⟩⟩⟩⟩, hk.2.1⟩)))) (Kd.V_reads' (Kd.V_mono (ok' := (fun k_ => ((fun k_ => (w.heap.size ≤ k_) ∧ k_ ≠ gb168 ∧ k_ ≠ gb169 ∧ k_ ≠ gb207 ∧ k_ ≠ gb209 ∧ k_ ≠ gb221)) k_ ∧ some k_ ≠ (u208006 : Value).ownBlock)) (HO220.out) (fun k_ hk => ⟨⟨hk.1, ⟨hk.2.2.1, ⟨hk.2.2.2.1, ⟨hk.2.2.2.2.1, ⟨hk.2.2.2.2.2.1, hk.2.2.2.2.2.2⟩⟩⟩⟩⟩, hk.2.1⟩))).2.1 (Kd.V_F (by (with_reducible repeat (first | apply Kd.V_alloc | apply Kd.V_drewN | apply Kd.V_drew)); exact (Kd.V_mono (ok' := (fun k_ => ((fun k_ => (w.heap.size ≤ k_) ∧ k_ ≠ gb168 ∧ k_ ≠ gb169 ∧ k_ ≠ gb207 ∧ k_ ≠ gb209 ∧ k_ ≠ gb221)) k_ ∧ some k_ ≠ (u208006 : Value).ownBlock)) (HO220.out) (fun k_ hk => ⟨⟨hk.1, ⟨hk.2.2.1, ⟨hk.2.2.2.1, ⟨hk.2.2.2.2.1, ⟨hk.2.2.2.2.2.1, hk.2.2.2.2.2.2⟩⟩⟩⟩⟩, hk.2.1⟩)))))); (case aB => exact mZ); (case aF => exact (fun k_ hk => ⟨(Nat.le_trans (below_size mZ) hk), Kd.freshB (mK BK168.out) k_ hk, Kd.freshB (mK BK169.out) k_ hk, Kd.freshB (mK BK207.out) k_ hk, Kd.freshB (mK BK209.out) k_ hk, Kd.freshB (mK BK221.out) k_ hk⟩)); (case aO => exact (mN HO_208006.out)); (case aS => exact (below_size mZ)); (case aL => have := LMc71.out; omega); intro v226 w91 ho hb hg hat; rw [← Ny225.out] at ho; have n0_ := Aside0.mk (blk_grown (mK BK168.out) hg (Kd.N_away HO_208006.out (fun _ hk => hk.2.1))); have n1_ := Aside0.mk (blk_grown (mK BK169.out) hg (Kd.N_away HO_208006.out (fun _ hk => hk.2.2.1))); have n2_ := Aside0.mk (blk_grown (mK BK207.out) hg (Kd.N_away HO_208006.out (fun _ hk => hk.2.2.2.1))); have n3_ := Aside0.mk (blk_grown (mK BK209.out) hg (Kd.N_away HO_208006.out (fun _ hk => hk.2.2.2.2.1))); have n6_ := Aside0.mk (blk_grown (mK BK221.out) hg (Kd.N_away HO_208006.out (fun _ hk => hk.2.2.2.2.2))); have n7_ := Aside0.mk (hb); have n8_ := Aside0.mk (ho); clear BK168; clear BK169; clear BK207; clear BK209; clear HO217; clear HO220; clear BK221; clear HB; clear HO_208006; have BK168 := n0_; have BK169 := n1_; have BK207 := n2_; have BK209 := n3_; have BK221 := n6_; have HB := n7_; have HO227 := n8_; clear n0_ n1_ n2_ n3_ n6_ n7_ n8_; clear ho hb hg hat; obtain ⟨Ao92, co92, eo92⟩ := Kd.N_slice HO227.out; subst eo92; obtain ⟨hcz93_0, hcz93_1, hcz93_2, hcz93_3, hcz93_4, hcz93_5, hcz93_6, hfz93_0, hfz93_1, hfz93_2, hfz93_3, hfz93_4, hfz93_5, hfz93_6⟩ := cells_7 BK207.out))
          go_roundg k2
          case measure => have := HJ2.out; have := HK2.out; omega
          case rel => exact ⟨(wrap64 (x40_2 + 1)), (y225), (.slice Ao92 y225.length co92), (by first | rfl | (simp; done) | (simp [*]; done)), H', ⟨by have := HJ2.out; have := HK2.out; omega⟩, ⟨by (with_reducible repeat (first | apply Kd.N_alloc | apply Kd.N_drewN | apply Kd.N_drew)); exact Kd.N_mono (Kd.N_far (p := ⟨gb207, 6, none⟩) (Kd.N_mono HO227.out (fun k_ hk => (⟨hk, hk.2.2.2.1⟩ : _ ∧ k_ ≠ gb207))) (fun _ hk => hk.2) (.slice Ao92 y225.length co92)) (fun _ hk => ⟨hk.1.1, ⟨hk.1.2.1, ⟨hk.1.2.2.1, hk.1.2.2.2.1⟩⟩⟩)⟩, ⟨by (with_reducible repeat (first | refine blk_drewN ?_ _ | refine blk_drew ?_ | refine blk_alloc ?_ _)); refine blk_far ?_ NB168_207.out _; (with_reducible repeat (first | refine blk_drewN ?_ _ | refine blk_drew ?_ | refine blk_alloc ?_ _)); exact BK168.out⟩, ⟨by (with_reducible repeat (first | refine blk_drewN ?_ _ | refine blk_drew ?_ | refine blk_alloc ?_ _)); refine blk_far ?_ NB169_207.out _; (with_reducible repeat (first | refine blk_drewN ?_ _ | refine blk_drew ?_ | refine blk_alloc ?_ _)); exact BK169.out⟩, ⟨by (with_reducible repeat (first | refine blk_drewN ?_ _ | refine blk_drew ?_ | refine blk_alloc ?_ _)); refine blk_put (cs := #[.int .i64 x5_2, .string (⟨#[]⟩ : ByteArray), .int .i64 0, .int .i64 0, .string (⟨#[]⟩ : ByteArray), .slice none 0 0, u208006]) ?_ 6 _ rfl; (with_reducible repeat (first | refine blk_drewN ?_ _ | refine blk_drew ?_ | refine blk_alloc ?_ _)); exact BK207.out⟩, ⟨mZ⟩⟩
         ·rw [if_neg c71] at H
          exact absurd H (by simp)
       ·rw [if_neg c47] at H
        exact absurd H (by simp)
      ·rw [if_neg c46] at H
       exact absurd H (by simp)
     ·rw [if_neg c45] at H
      have c45b0 : decide (x40_2 < (l0_6.length : Int)) = false := decide_eq_false c45
      clear c45
      by_cases c94 : (x208006_2.length : Int) = 1
      ·rw [if_pos c94] at H
       have c94b0 : ((x208006_2.length : Int) == 1) = true := beq_iff_eq.mpr c94
       have c94b1 : ((x208006_2.length : Int) != 1) = false := bne_eq_false_iff_eq.mpr c94
       clear c94
       by_cases c95 : 0 < (x208006_2.length : Int)
       ·rw [if_pos c95] at H
        have c95b0 : decide (0 < (x208006_2.length : Int)) = true := decide_eq_true c95
        have c95b1 : decide (0 < x208006_2.length) = true := decide_eq_true (by omega)
        clear c95
        simp only [Option.some.injEq, Prod.mk.injEq] at H
        obtain ⟨rfl, rfl, rfl, rfl, rfl, rfl, rfl⟩ := H
        have hnb96 := NB207_168.out
        have hnc96 := NB168_207.out
        have hnb97 := NB207_169.out
        have hnc97 := NB169_207.out
        obtain ⟨hcz98_0, hcz98_1, hcz98_2, hcz98_3, hcz98_4, hcz98_5, hcz98_6, hfz98_0, hfz98_1, hfz98_2, hfz98_3, hfz98_4, hfz98_5, hfz98_6⟩ := cells_7 BK207.out
        obtain ⟨Ao99, co99, eo99⟩ := Kd.N_slice HO_208006.out
        subst eo99
        have p228 : 0 ≤ (0 : Int) := (by omega)
        have q228 : 0 < (x208006_2.length : Int) := of_decide_eq_true (by first | (with_reducible assumption) | assumption)
        obtain ⟨ad228, A228_5, c228_5, A228_6, c228_6, e228, hx228_0, hx228_1, hx228_2, hx228_3, hx228_4, hx228_5, hx228_6, hl228_5, hi228_5, hl228_6, hi228_6⟩ := at_T25 (Kd.N_reads' HO_208006.out).2.2 0 p228 q228
        cases e228
        obtain ⟨ce228, hce228, hMe228, hcc228⟩ := Kd.N_get HO_208006.out z25 0 p228 (by first | exact q228 | exact of_decide_eq_true (by first | (with_reducible assumption) | assumption) | (have e_ := (Kd.N_reads' HO_208006.out).1; omega))
        obtain ⟨ua228_5, uc228_5, ua228_6, uc228_6, rfl, ul228_5, ge228_5, ul228_6, ge228_6⟩ := k25_openF hMe228
        have hv228_5 := hcc228 5 _ rfl
        rw [add_field _ _ 5 (by omega)] at hv228_5
        replace hv228_5 := Option.some.inj (hv228_5.symm.trans hx228_5)
        injection hv228_5 with hva_ hvn_ hvc_
        rw [hva_] at ge228_5
        rw [hvc_] at ul228_5
        have HL228_5 := Aside0.mk (show Kd.V Kd.string 9 _ w.heap.size _ _ ((rd_T25 x208006_2 0).f5) from Kd.V_mk ul228_5 ge228_5)
        clear hva_ hvn_ hvc_ ge228_5 ul228_5
        have hv228_6 := hcc228 6 _ rfl
        rw [add_field _ _ 6 (by omega)] at hv228_6
        replace hv228_6 := Option.some.inj (hv228_6.symm.trans hx228_6)
        injection hv228_6 with hva_ hvn_ hvc_
        rw [hva_] at ge228_6
        rw [hvc_] at ul228_6
        have HL228_6 := Aside0.mk (show Kd.V k25 25 _ w.heap.size _ _ ((rd_T25 x208006_2 0).f6) from Kd.V_mk ul228_6 ge228_6)
        clear hva_ hvn_ hvc_ ge228_6 ul228_6
        clear hcc228 hce228
        have qi228 : (0 < x208006_2.length) = True := eq_true (by omega)
        (try rw [show ((0 : Int)).toNat = 0 from rfl] at hx228_0)
        (try rw [show 0 * 7 = 0 from rfl] at hx228_0)
        (try rw [Addr.add_zero'] at hx228_0)
        (try rw [show ((0 : Int)).toNat = 0 from rfl] at hx228_1)
        (try rw [show 0 * 7 = 0 from rfl] at hx228_1)
        (try rw [Addr.add_zero'] at hx228_1)
        (try rw [show ((0 : Int)).toNat = 0 from rfl] at hx228_2)
        (try rw [show 0 * 7 = 0 from rfl] at hx228_2)
        (try rw [Addr.add_zero'] at hx228_2)
        (try rw [show ((0 : Int)).toNat = 0 from rfl] at hx228_3)
        (try rw [show 0 * 7 = 0 from rfl] at hx228_3)
        (try rw [Addr.add_zero'] at hx228_3)
        (try rw [show ((0 : Int)).toNat = 0 from rfl] at hx228_4)
        (try rw [show 0 * 7 = 0 from rfl] at hx228_4)
        (try rw [Addr.add_zero'] at hx228_4)
        (try rw [show ((0 : Int)).toNat = 0 from rfl] at hx228_5)
        (try rw [show 0 * 7 = 0 from rfl] at hx228_5)
        (try rw [Addr.add_zero'] at hx228_5)
        (try rw [show ((0 : Int)).toNat = 0 from rfl] at hx228_6)
        (try rw [show 0 * 7 = 0 from rfl] at hx228_6)
        (try rw [Addr.add_zero'] at hx228_6)
        have HR228_5 := Aside0.mk hi228_5
        have HC228_5 := Aside0.mk hl228_5
        clear hi228_5 hl228_5
        have HR228_6 := Aside0.mk hi228_6
        have HC228_6 := Aside0.mk hl228_6
        clear hi228_6 hl228_6
        replace p228 := eq_true p228
        replace q228 := eq_true q228
        have hnb100 := NB169_168.out
        have hnc100 := NB168_169.out
        obtain ⟨hcz101_0, hcz101_1, hcz101_2, hcz101_3, hcz101_4, hcz101_5, hcz101_6, hfz101_0, hfz101_1, hfz101_2, hfz101_3, hfz101_4, hfz101_5, hfz101_6⟩ := cells_7 BK169.out
        go_wp2
        refine bodyPost_ret (results_cell_row rfl _ _ gb169 25 #[.int .i64 ((rd_T25 x208006_2 0).f0), .string ((rd_T25 x208006_2 0).f1), .int .i64 ((rd_T25 x208006_2 0).f2), .int .i64 ((rd_T25 x208006_2 0).f3), .string ((rd_T25 x208006_2 0).f4), .slice A228_5 ((rd_T25 x208006_2 0).f5).length c228_5, .slice A228_6 ((rd_T25 x208006_2 0).f6).length c228_6] (0, 0) _ rfl (by (with_reducible repeat (first | refine blk_drewN ?_ _ | refine blk_drew ?_ | refine blk_alloc ?_ _)); apply puts_7; (with_reducible repeat (first | refine blk_drewN ?_ _ | refine blk_drew ?_ | refine blk_alloc ?_ _)); exact BK169.out) Try.underlying25 rfl (by kernel_rfl)) rfl ?_
        exact ⟨_, _, by first | rfl | (simp [errW_none, errW_some] <;> rfl) | (simp [*, errW_none, errW_some] <;> rfl), by (with_reducible repeat (first | apply Kd.V_alloc | apply Kd.V_drewN | apply Kd.V_drew)); exact Kd.V_mono (Kd.V_far (p := ⟨gb169, 6, none⟩) (Kd.V_far (p := ⟨gb169, 5, none⟩) (Kd.V_far (p := ⟨gb169, 4, none⟩) (Kd.V_far (p := ⟨gb169, 3, none⟩) (Kd.V_far (p := ⟨gb169, 2, none⟩) (Kd.V_far (p := ⟨gb169, 1, none⟩) (Kd.V_far (p := ⟨gb169, 0, none⟩) (Kd.V_mono HL228_5.out (fun k_ hk => (⟨hk, hk.1.2.2.1⟩ : _ ∧ k_ ≠ gb169))) (fun _ hk => hk.2) (.int .i64 ((rd_T25 x208006_2 0).f0))) (fun _ hk => hk.2) (.string ((rd_T25 x208006_2 0).f1))) (fun _ hk => hk.2) (.int .i64 ((rd_T25 x208006_2 0).f2))) (fun _ hk => hk.2) (.int .i64 ((rd_T25 x208006_2 0).f3))) (fun _ hk => hk.2) (.string ((rd_T25 x208006_2 0).f4))) (fun _ hk => hk.2) (.slice A228_5 ((rd_T25 x208006_2 0).f5).length c228_5)) (fun _ hk => hk.2) (.slice A228_6 ((rd_T25 x208006_2 0).f6).length c228_6)) (fun _ hk => hk.1.1.1), by (with_reducible repeat (first | apply Kd.V_alloc | apply Kd.V_drewN | apply Kd.V_drew)); exact Kd.V_mono (Kd.V_far (p := ⟨gb169, 6, none⟩) (Kd.V_far (p := ⟨gb169, 5, none⟩) (Kd.V_far (p := ⟨gb169, 4, none⟩) (Kd.V_far (p := ⟨gb169, 3, none⟩) (Kd.V_far (p := ⟨gb169, 2, none⟩) (Kd.V_far (p := ⟨gb169, 1, none⟩) (Kd.V_far (p := ⟨gb169, 0, none⟩) (Kd.V_mono HL228_6.out (fun k_ hk => (⟨hk, hk.1.2.2.1⟩ : _ ∧ k_ ≠ gb169))) (fun _ hk => hk.2) (.int .i64 ((rd_T25 x208006_2 0).f0))) (fun _ hk => hk.2) (.string ((rd_T25 x208006_2 0).f1))) (fun _ hk => hk.2) (.int .i64 ((rd_T25 x208006_2 0).f2))) (fun _ hk => hk.2) (.int .i64 ((rd_T25 x208006_2 0).f3))) (fun _ hk => hk.2) (.string ((rd_T25 x208006_2 0).f4))) (fun _ hk => hk.2) (.slice A228_5 ((rd_T25 x208006_2 0).f5).length c228_5)) (fun _ hk => hk.2) (.slice A228_6 ((rd_T25 x208006_2 0).f6).length c228_6)) (fun _ hk => hk.1.1.1), mZ⟩
       ·rw [if_neg c95] at H
        exact absurd H (by simp)
      ·rw [if_neg c94] at H
       have c94b0 : ((x208006_2.length : Int) == 1) = false := beq_eq_false_iff_ne.mpr c94
       have c94b1 : ((x208006_2.length : Int) != 1) = true := bne_iff_ne.mpr c94
       simp only [Option.some.injEq, Prod.mk.injEq] at H
       obtain ⟨rfl, rfl, rfl, rfl, rfl, rfl, rfl⟩ := H
       have hnb102 := NB207_168.out
       have hnc102 := NB168_207.out
       have hnb103 := NB207_169.out
       have hnc103 := NB169_207.out
       obtain ⟨hcz104_0, hcz104_1, hcz104_2, hcz104_3, hcz104_4, hcz104_5, hcz104_6, hfz104_0, hfz104_1, hfz104_2, hfz104_3, hfz104_4, hfz104_5, hfz104_6⟩ := cells_7 BK207.out
       obtain ⟨Ao105, co105, eo105⟩ := Kd.N_slice HO_208006.out
       subst eo105
       have hnb106 := NB169_168.out
       have hnc106 := NB168_169.out
       obtain ⟨hcz107_0, hcz107_1, hcz107_2, hcz107_3, hcz107_4, hcz107_5, hcz107_6, hfz107_0, hfz107_1, hfz107_2, hfz107_3, hfz107_4, hfz107_5, hfz107_6⟩ := cells_7 BK169.out
       go_wp2
       refine bodyPost_ret (results_cell_row rfl _ _ gb169 25 #[.int .i64 x5_2, .string (⟨#[]⟩ : ByteArray), .int .i64 0, .int .i64 0, .string (⟨#[]⟩ : ByteArray), .slice none 0 0, .slice Ao105 x208006_2.length co105] (0, 0) _ rfl (by (with_reducible repeat (first | refine blk_drewN ?_ _ | refine blk_drew ?_ | refine blk_alloc ?_ _)); apply puts_7; (with_reducible repeat (first | refine blk_drewN ?_ _ | refine blk_drew ?_ | refine blk_alloc ?_ _)); exact BK169.out) Try.underlying25 rfl (by kernel_rfl)) rfl ?_
       exact ⟨_, _, by first | rfl | (simp [errW_none, errW_some] <;> rfl) | (simp [*, errW_none, errW_some] <;> rfl), by first | exact Kd.V_nil _ _ _ _ _ | (exact (by first | exact Kd.R_nil _ _ _ _ _ | exact Kd.N_nil _ _ _ _ _ | exact Kd.V_nil _ _ _ _ _ | exact Kd.Q_nil _ _ _ _ _ | exact Kd.S_nil _ _ _ _ _)), Kd.N_V (by (with_reducible repeat (first | apply Kd.N_alloc | apply Kd.N_drewN | apply Kd.N_drew)); exact Kd.N_mono (Kd.N_far (p := ⟨gb169, 6, none⟩) (Kd.N_far (p := ⟨gb169, 5, none⟩) (Kd.N_far (p := ⟨gb169, 4, none⟩) (Kd.N_far (p := ⟨gb169, 3, none⟩) (Kd.N_far (p := ⟨gb169, 2, none⟩) (Kd.N_far (p := ⟨gb169, 1, none⟩) (Kd.N_far (p := ⟨gb169, 0, none⟩) (Kd.N_mono HO_208006.out (fun k_ hk => (⟨hk, hk.2.2.1⟩ : _ ∧ k_ ≠ gb169))) (fun _ hk => hk.2) (.int .i64 x5_2)) (fun _ hk => hk.2) (.string (⟨#[]⟩ : ByteArray))) (fun _ hk => hk.2) (.int .i64 0)) (fun _ hk => hk.2) (.int .i64 0)) (fun _ hk => hk.2) (.string (⟨#[]⟩ : ByteArray))) (fun _ hk => hk.2) (.slice none 0 0)) (fun _ hk => hk.2) (.slice Ao105 x208006_2.length co105)) (fun _ hk => hk.1.1)), mZ⟩

end Go.Proofs.Ytalpcnomfebdiaa.QPredLimits
