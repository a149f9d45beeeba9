-- Written by a program of this session (wip/myprint.py): the machine's side of a law
import Derived.Test.YtalpcnomfebdiaaQPredRulesx0
import Derived.Test.YtalpcnomfebdiaaQPredRulesx7
namespace Go.Proofs.Ytalpcnomfebdiaa.QPredRules
open Go.RowKit Go.Proofs.YtalpcnomfebdiaaW.PrintWords Go.Proofs.YtalpcnomfebdiaaW.PrintLast Go.Proofs.YtalpcnomfebdiaaW.PrintMore
attribute [local go_sem] max2_int min2_int max_two min_two max_three min_three max_four min_four   -- for this text's walks alone
set_option linter.unusedVariables false
set_option linter.unusedSimpArgs false

/-! ### pred_normal: function 28 -/
mutual
def pred_normal.j1 : Nat → Bool → Int → Int → ByteArray → Int → Int → ByteArray → List ByteArray → List (S25) → Option (Int × ByteArray × Int × Int × ByteArray × List ByteArray × (List (S25)))
 | 0, _, _, _, _, _, _, _, _, _ => none
 | k + 1, x1, x5, x193000, x193001, x193002, x193003, x193004, x193005, x193006 => pred_normal.l0 k x1 x5 x193006 (x193006.length : Int) 0 x5 (⟨#[]⟩ : ByteArray) 0 0 (⟨#[]⟩ : ByteArray) ([] : List (S25))
def pred_normal.l0 : Nat → Bool → Int → List (S25) → Int → Int → Int → ByteArray → Int → Int → ByteArray → List (S25) → Option (Int × ByteArray × Int × Int × ByteArray × List ByteArray × (List (S25)))
 | 0, _, _, _, _, _, _, _, _, _, _, _ => none
 | k + 1, x1, x5, x38, x39, x40, x232000, x232001, x232002, x232003, x232004, x232006 => if x40 < x39 then (if 0 ≤ x40 then (if x40 < (x38.length : Int) then ((pred_normal.f k ((rd_T25 x38 x40).f0) ((rd_T25 x38 x40).f1) ((rd_T25 x38 x40).f2) ((rd_T25 x38 x40).f3) ((rd_T25 x38 x40).f4) ((rd_T25 x38 x40).f5) ((rd_T25 x38 x40).f6) x1).bind fun bt234 => (if bt234.1 = x5 then (if x232006.length + bt234.2.2.2.2.2.2.length < 1353245080339 then (pred_normal.l0 k x1 x5 x38 x39 (wrap64 (x40 + 1)) x232000 x232001 x232002 x232003 x232004 (x232006 ++ bt234.2.2.2.2.2.2)) else (none)) else (if x232006.length < 1353245080339 then (pred_normal.l0 k x1 x5 x38 x39 (wrap64 (x40 + 1)) x232000 x232001 x232002 x232003 x232004 (x232006 ++ [(⟨bt234.1, bt234.2.1, bt234.2.2.1, bt234.2.2.2.1, bt234.2.2.2.2.1, bt234.2.2.2.2.2.1, bt234.2.2.2.2.2.2⟩ : S25)])) else (none)))) else (none)) else (none)) else (if (x232006.length : Int) = 1 then (if 0 < (x232006.length : Int) then (some ((rd_T25 x232006 0).f0, (rd_T25 x232006 0).f1, (rd_T25 x232006 0).f2, (rd_T25 x232006 0).f3, (rd_T25 x232006 0).f4, (rd_T25 x232006 0).f5, (rd_T25 x232006 0).f6)) else (none)) else (some (x232000, x232001, x232002, x232003, x232004, ([] : List ByteArray), x232006)))
def pred_normal.j0 : Nat → Bool → Int → Bool → Int → ByteArray → Int → Int → ByteArray → List ByteArray → List (S25) → Option (Int × ByteArray × Int × Int × ByteArray × List ByteArray × (List (S25)))
 | 0, _, _, _, _, _, _, _, _, _, _ => none
 | k + 1, x1, x5, x29, x193000, x193001, x193002, x193003, x193004, x193005, x193006 => if x29 = true then (if x1 = true then (pred_normal.j1 k x1 (wrap64 (3 - x5)) x193000 x193001 x193002 x193003 x193004 x193005 x193006) else (pred_normal.j1 k x1 x5 x193000 x193001 x193002 x193003 x193004 x193005 x193006)) else (if x1 = true then ((pred_Copy.f k x193000 x193001 x193002 x193003 x193004 x193005 x193006).bind fun bt206 => (some (3, (⟨#[]⟩ : ByteArray), 0, 0, (⟨#[]⟩ : ByteArray), ([] : List ByteArray), (([(⟨bt206.1, bt206.2.1, bt206.2.2.1, bt206.2.2.2.1, bt206.2.2.2.2.1, bt206.2.2.2.2.2.1, bt206.2.2.2.2.2.2⟩ : S25)] : List (S25)))))) else ((pred_Copy.f k x193000 x193001 x193002 x193003 x193004 x193005 x193006).bind fun bt220 => (some (bt220.1, bt220.2.1, bt220.2.2.1, bt220.2.2.2.1, bt220.2.2.2.2.1, bt220.2.2.2.2.2.1, bt220.2.2.2.2.2.2))))
def pred_normal.f : Nat → Int → ByteArray → Int → Int → ByteArray → List ByteArray → List (S25) → Bool → Option (Int × ByteArray × Int × Int × ByteArray × List ByteArray × (List (S25)))
 | 0, _, _, _, _, _, _, _, _ => none
 | k + 1, a0_0, a0_1, a0_2, a0_3, a0_4, l0_5, l0_6, a1 => if a0_0 = 3 then (if 0 < (l0_6.length : Int) then ((pred_normal.f k ((rd_T25 l0_6 0).f0) ((rd_T25 l0_6 0).f1) ((rd_T25 l0_6 0).f2) ((rd_T25 l0_6 0).f3) ((rd_T25 l0_6 0).f4) ((rd_T25 l0_6 0).f5) ((rd_T25 l0_6 0).f6) (!a1)).bind fun bt195 => (some (bt195.1, bt195.2.1, bt195.2.2.1, bt195.2.2.2.1, bt195.2.2.2.2.1, bt195.2.2.2.2.2.1, bt195.2.2.2.2.2.2))) else (none)) else (if a0_0 = 1 then (pred_normal.j0 k a1 a0_0 (a0_0 == 1) a0_0 a0_1 a0_2 a0_3 a0_4 l0_5 l0_6) else (pred_normal.j0 k a1 a0_0 (a0_0 == 2) a0_0 a0_1 a0_2 a0_3 a0_4 l0_5 l0_6))
end
theorem pred_normal.mono_l : ∀ k, (∀ y0 y1 y2 y3 y4 y5 y6 y7, LeO (pred_normal.f k y0 y1 y2 y3 y4 y5 y6 y7) (pred_normal.f (k + 1) y0 y1 y2 y3 y4 y5 y6 y7)) ∧ (∀ y0 y1 y2 y3 y4 y5 y6 y7 y8, LeO (pred_normal.j1 k y0 y1 y2 y3 y4 y5 y6 y7 y8) (pred_normal.j1 (k + 1) y0 y1 y2 y3 y4 y5 y6 y7 y8)) ∧ (∀ y0 y1 y2 y3 y4 y5 y6 y7 y8 y9 y10, LeO (pred_normal.l0 k y0 y1 y2 y3 y4 y5 y6 y7 y8 y9 y10) (pred_normal.l0 (k + 1) y0 y1 y2 y3 y4 y5 y6 y7 y8 y9 y10)) ∧ (∀ y0 y1 y2 y3 y4 y5 y6 y7 y8 y9, LeO (pred_normal.j0 k y0 y1 y2 y3 y4 y5 y6 y7 y8 y9) (pred_normal.j0 (k + 1) y0 y1 y2 y3 y4 y5 y6 y7 y8 y9))
 | 0 => ⟨fun _ _ _ _ _ _ _ _ r h => by simp [pred_normal.f] at h, fun _ _ _ _ _ _ _ _ _ r h => by simp [pred_normal.j1] at h, fun _ _ _ _ _ _ _ _ _ _ _ r h => by simp [pred_normal.l0] at h, fun _ _ _ _ _ _ _ _ _ _ r h => by simp [pred_normal.j0] at h⟩
 | k + 1 => by
  obtain ⟨ih0, ih1, ih2, ih3⟩ := pred_normal.mono_l k
  refine ⟨?_, ?_, ?_, ?_⟩
  ·intro y0 y1 y2 y3 y4 y5 y6 y7
   unfold pred_normal.f
   repeat' first
   | (with_reducible exact ih0 _ _ _ _ _ _ _ _)
   | (with_reducible exact ih1 _ _ _ _ _ _ _ _ _)
   | (with_reducible exact ih2 _ _ _ _ _ _ _ _ _ _ _)
   | (with_reducible exact ih3 _ _ _ _ _ _ _ _ _ _)
   | (with_reducible exact pred_Copy.mono _ _ _ _ _ _ _ _)
   | (with_reducible exact LeO.refl _)
   | (with_reducible exact LeO.none _)
   | (with_reducible refine LeO.ite ?_ ?_)
   | (with_reducible refine LeO.bind ?_ (fun _ => ?_))
   | exact ih0 _ _ _ _ _ _ _ _
   | exact ih1 _ _ _ _ _ _ _ _ _
   | exact ih2 _ _ _ _ _ _ _ _ _ _ _
   | exact ih3 _ _ _ _ _ _ _ _ _ _
   | exact pred_Copy.mono _ _ _ _ _ _ _ _
   | exact LeO.none _
   | refine LeO.ite ?_ ?_
   | refine LeO.bind ?_ (fun _ => ?_)
  ·intro y0 y1 y2 y3 y4 y5 y6 y7 y8
   unfold pred_normal.j1
   repeat' first
   | (with_reducible exact ih0 _ _ _ _ _ _ _ _)
   | (with_reducible exact ih1 _ _ _ _ _ _ _ _ _)
   | (with_reducible exact ih2 _ _ _ _ _ _ _ _ _ _ _)
   | (with_reducible exact ih3 _ _ _ _ _ _ _ _ _ _)
   | (with_reducible exact pred_Copy.mono _ _ _ _ _ _ _ _)
   | (with_reducible exact LeO.refl _)
   | (with_reducible exact LeO.none _)
   | (with_reducible refine LeO.ite ?_ ?_)
   | (with_reducible refine LeO.bind ?_ (fun _ => ?_))
   | exact ih0 _ _ _ _ _ _ _ _
   | exact ih1 _ _ _ _ _ _ _ _ _
   | exact ih2 _ _ _ _ _ _ _ _ _ _ _
   | exact ih3 _ _ _ _ _ _ _ _ _ _
   | exact pred_Copy.mono _ _ _ _ _ _ _ _
   | exact LeO.none _
   | refine LeO.ite ?_ ?_
   | refine LeO.bind ?_ (fun _ => ?_)
  ·intro y0 y1 y2 y3 y4 y5 y6 y7 y8 y9 y10
   unfold pred_normal.l0
   repeat' first
   | (with_reducible exact ih0 _ _ _ _ _ _ _ _)
   | (with_reducible exact ih1 _ _ _ _ _ _ _ _ _)
   | (with_reducible exact ih2 _ _ _ _ _ _ _ _ _ _ _)
   | (with_reducible exact ih3 _ _ _ _ _ _ _ _ _ _)
   | (with_reducible exact pred_Copy.mono _ _ _ _ _ _ _ _)
   | (with_reducible exact LeO.refl _)
   | (with_reducible exact LeO.none _)
   | (with_reducible refine LeO.ite ?_ ?_)
   | (with_reducible refine LeO.bind ?_ (fun _ => ?_))
   | exact ih0 _ _ _ _ _ _ _ _
   | exact ih1 _ _ _ _ _ _ _ _ _
   | exact ih2 _ _ _ _ _ _ _ _ _ _ _
   | exact ih3 _ _ _ _ _ _ _ _ _ _
   | exact pred_Copy.mono _ _ _ _ _ _ _ _
   | exact LeO.none _
   | refine LeO.ite ?_ ?_
   | refine LeO.bind ?_ (fun _ => ?_)
  intro y0 y1 y2 y3 y4 y5 y6 y7 y8 y9
  unfold pred_normal.j0
  repeat' first
  | (with_reducible exact ih0 _ _ _ _ _ _ _ _)
  | (with_reducible exact ih1 _ _ _ _ _ _ _ _ _)
  | (with_reducible exact ih2 _ _ _ _ _ _ _ _ _ _ _)
  | (with_reducible exact ih3 _ _ _ _ _ _ _ _ _ _)
  | (with_reducible exact pred_Copy.mono _ _ _ _ _ _ _ _)
  | (with_reducible exact LeO.refl _)
  | (with_reducible exact LeO.none _)
  | (with_reducible refine LeO.ite ?_ ?_)
  | (with_reducible refine LeO.bind ?_ (fun _ => ?_))
  | exact ih0 _ _ _ _ _ _ _ _
  | exact ih1 _ _ _ _ _ _ _ _ _
  | exact ih2 _ _ _ _ _ _ _ _ _ _ _
  | exact ih3 _ _ _ _ _ _ _ _ _ _
  | exact pred_Copy.mono _ _ _ _ _ _ _ _
  | exact LeO.none _
  | refine LeO.ite ?_ ?_
  | refine LeO.bind ?_ (fun _ => ?_)
theorem pred_normal.mono : ∀ a0 a1 a2 a3 a4 a5 a6 a7 k, LeO (pred_normal.f k a0 a1 a2 a3 a4 a5 a6 a7) (pred_normal.f (k + 1) a0 a1 a2 a3 a4 a5 a6 a7) := by
 intro a0 a1 a2 a3 a4 a5 a6 a7 k
 obtain ⟨ih0, ih1, ih2, ih3⟩ := pred_normal.mono_l k
 exact ih0 a0 a1 a2 a3 a4 a5 a6 a7
set_option maxHeartbeats 8000000 in
set_option maxRecDepth 100000 in
theorem pred_normal.calls (k : Nat) : ∀ (a0_0 : Int) (a0_1 : ByteArray) (a0_2 : Int) (a0_3 : Int) (a0_4 : ByteArray) (A0_5 : Option Addr) (c0_5 : Nat) (l0_5 : List ByteArray) (A0_6 : Option Addr) (c0_6 : Nat) (l0_6 : List (S25)) (a1 : Bool) (r1 : Int) (r2 : ByteArray) (r3 : Int) (r4 : Int) (r5 : ByteArray) (r6 : List ByteArray) (r7 : List (S25)) (w : World) (hr0_5 : Kd.C Kd.string w A0_5 l0_5.length l0_5) (hc0_5 : l0_5.length ≤ c0_5) (hr0_6 : Kd.C k25 w A0_6 l0_6.length l0_6) (hc0_6 : l0_6.length ≤ c0_6) (h : pred_normal.f k a0_0 a0_1 a0_2 a0_3 a0_4 l0_5 l0_6 a1 = some (r1, r2, r3, r4, r5, r6, r7)),
  Calls Try.prog 28 #[.agg #[.int .i64 a0_0, .string a0_1, .int .i64 a0_2, .int .i64 a0_3, .string a0_4, .slice A0_5 l0_5.length c0_5, .slice A0_6 l0_6.length c0_6], .bool a1] w fun e w' => ∃ v5_ v6_ : Value, e = .returned (.agg #[.int .i64 r1, .string r2, .int .i64 r3, .int .i64 r4, .string r5, v5_, v6_]) ∧ Kd.V Kd.string 9 w' w.heap.size (fun k_ => (w.heap.size ≤ k_)) v5_ r6 ∧ Kd.V k25 25 w' w.heap.size (fun k_ => (w.heap.size ≤ k_)) v6_ r7 ∧ Below w.heap.size w w' := by
 induction k using Nat.strongRecOn with
 | _ k ih =>
 intro a0_0 a0_1 a0_2 a0_3 a0_4 A0_5 c0_5 l0_5 A0_6 c0_6 l0_6 a1 r1 r2 r3 r4 r5 r6 r7 w hr0_5 hc0_5 hr0_6 hc0_6 h
 cases k with
 | zero => exact absurd h (by simp [pred_normal.f])
 | succ k =>
 simp only [pred_normal.f] at h
 have hu25 := Try.underlying25
 have HR0_5 := zM hr0_5
 have HC0_5 := zM hc0_5
 clear hr0_5 hc0_5
 have HR0_6 := zM hr0_6
 have HC0_6 := zM hc0_6
 clear hr0_6 hc0_6
 have HB := zM (Below.refl w.heap.size w)
 have H : (if a0_0 = 3 then (if 0 < (l0_6.length : Int) then ((pred_normal.f k ((rd_T25 l0_6 0).f0) ((rd_T25 l0_6 0).f1) ((rd_T25 l0_6 0).f2) ((rd_T25 l0_6 0).f3) ((rd_T25 l0_6 0).f4) ((rd_T25 l0_6 0).f5) ((rd_T25 l0_6 0).f6) (!a1)).bind fun bt195 => (some (bt195.1, bt195.2.1, bt195.2.2.1, bt195.2.2.2.1, bt195.2.2.2.2.1, bt195.2.2.2.2.2.1, bt195.2.2.2.2.2.2))) else (none)) else (if a0_0 = 1 then (pred_normal.j0 k a1 a0_0 (a0_0 == 1) a0_0 a0_1 a0_2 a0_3 a0_4 l0_5 l0_6) else (pred_normal.j0 k a1 a0_0 (a0_0 == 2) a0_0 a0_1 a0_2 a0_3 a0_4 l0_5 l0_6))) = some (r1, r2, r3, r4, r5, r6, r7) := h
 clear h
 have HC3 := zM H
 clear H
 go_enter Try.func28, Try.ntmps28
 go_upto_block 0 with (first | ((with_reducible refine gate_dst (N := 2) rfl ?_); refine box_event ?hg (N := 2) ?hd (cs := #[.int .i64 a0_0, .string a0_1, .int .i64 a0_2, .int .i64 a0_3, .string a0_4, .slice A0_5 l0_5.length c0_5, .slice A0_6 l0_6.length c0_6]) (t := 25) ?hr ?_; (case hd => rfl); (case hg => rfl); (case hr => first | (go_simp; done) | (go_simp; rfl)); intro gb192 hg w4 hbox hb; have BK192 := zM (hbox); have GW192 := zM ((by rw [hg]; exact (below_size (mB HB.out)) : w.heap.size ≤ gb192)); replace HB := zM (below_step (mB HB.out) hb); have GE192 := GW192; clear hb hbox hg) | ((with_reducible refine gate_dst (N := 4) rfl ?_); refine box_event ?hg (N := 4) ?hd (cs := #[.int .i64 0, .string (⟨#[]⟩ : ByteArray), .int .i64 0, .int .i64 0, .string (⟨#[]⟩ : ByteArray), .slice none 0 0, .slice none 0 0]) (t := 25) ?hr ?_; (case hd => rfl); (case hg => rfl); (case hr => first | (go_simp; done) | (go_simp; rfl)); intro gb193 hg w5 hbox hb; have BK193 := zM (hbox); have GW193 := zM ((by rw [hg]; exact (below_size mZ) : w.heap.size ≤ gb193)); replace HB := zM (below_step mZ hb); have GE193 := GW193; have NB192_193 := zL BK192 hg; have NB193_192 := zG BK192 hg; replace BK192 := zK BK192 hb; clear hb hbox hg; have hnb6 := NB192_193.out; have hnc6 := NB193_192.out; obtain ⟨hcz7_0, hcz7_1, hcz7_2, hcz7_3, hcz7_4, hcz7_5, hcz7_6, hfz7_0, hfz7_1, hfz7_2, hfz7_3, hfz7_4, hfz7_5, hfz7_6⟩ := cells_7 BK192.out))
 (try simp only [Act.put, List.setIfInBounds_toArray, List.set_cons_zero, List.set_cons_succ])
 go_cut [5] (fun v5 wc => ∃ (kq : Nat) (x5_2 : Int) (x194000_2 : Int) (x194001_2 : ByteArray) (x194002_2 : Int) (x194003_2 : Int) (x194004_2 : ByteArray), v5 = .int .i64 x5_2 ∧ Aside0 (pred_normal.j1 kq a1 x5_2 a0_0 a0_1 a0_2 a0_3 a0_4 l0_5 l0_6 = some (r1, r2, r3, r4, r5, r6, r7)) ∧ Aside0 (kq ≤ k) ∧ Aside0 (wc.heap[gb192]? = some (.cells #[.int .i64 a0_0, .string a0_1, .int .i64 a0_2, .int .i64 a0_3, .string a0_4, (.slice A0_5 l0_5.length c0_5), (.slice A0_6 l0_6.length c0_6)] 25 (0, 0))) ∧ Aside0 (wc.heap[gb193]? = some (.cells #[.int .i64 x194000_2, .string x194001_2, .int .i64 x194002_2, .int .i64 x194003_2, .string x194004_2, (.slice none 0 0), (.slice none 0 0)] 25 (0, 0))) ∧ Aside0 (Below w.heap.size w wc))
 case first =>
  have H := HC3.out
  clear HC3
  by_cases c8 : a0_0 = 3
  ·rw [if_pos c8] at H
   have c8b0 : (a0_0 == 3) = true := beq_iff_eq.mpr c8
   have c8b1 : (a0_0 != 3) = false := bne_eq_false_iff_eq.mpr c8
   clear c8
   (first | rw [c8b0] | rw [c8b1] | (simp only [i64_w, i32_w]; rw [c8b0]) | skip)
   by_cases c9 : 0 < (l0_6.length : Int)
   ·rw [if_pos c9] at H
    have c9b0 : decide (0 < (l0_6.length : Int)) = true := decide_eq_true c9
    have c9b1 : decide (0 < l0_6.length) = true := decide_eq_true (by omega)
    clear c9
    replace H := Option.bind_eq_some_iff.mp H
    obtain ⟨⟨t195, t196, t197, t198, t199, t200, t203⟩, A100, H⟩ := H
    try dsimp only at H
    have A10 := zM A100
    clear A100
    simp only [Option.some.injEq, Prod.mk.injEq] at H
    obtain ⟨rfl, rfl, rfl, rfl, rfl, rfl, rfl⟩ := H
    have hnb11 := NB192_193.out
    have hnc11 := NB193_192.out
    obtain ⟨hcz12_0, hcz12_1, hcz12_2, hcz12_3, hcz12_4, hcz12_5, hcz12_6, hfz12_0, hfz12_1, hfz12_2, hfz12_3, hfz12_4, hfz12_5, hfz12_6⟩ := cells_7 BK192.out
    have p194 : 0 ≤ (0 : Int) := (by omega)
    have q194 : 0 < (l0_6.length : Int) := zA
    obtain ⟨ad194, A194_5, c194_5, A194_6, c194_6, e194, hx194_0, hx194_1, hx194_2, hx194_3, hx194_4, hx194_5, hx194_6, hl194_5, hi194_5, hl194_6, hi194_6⟩ := at_T25 HR0_6.out 0 p194 q194
    cases e194
    have qi194 : (0 < l0_6.length) = True := eq_true (by omega)
    (try rw [show ((0 : Int)).toNat = 0 from rfl] at hx194_0)
    (try rw [show 0 * 7 = 0 from rfl] at hx194_0)
    (try rw [Addr.add_zero'] at hx194_0)
    (try rw [show ((0 : Int)).toNat = 0 from rfl] at hx194_1)
    (try rw [show 0 * 7 = 0 from rfl] at hx194_1)
    (try rw [Addr.add_zero'] at hx194_1)
    (try rw [show ((0 : Int)).toNat = 0 from rfl] at hx194_2)
    (try rw [show 0 * 7 = 0 from rfl] at hx194_2)
    (try rw [Addr.add_zero'] at hx194_2)
    (try rw [show ((0 : Int)).toNat = 0 from rfl] at hx194_3)
    (try rw [show 0 * 7 = 0 from rfl] at hx194_3)
    (try rw [Addr.add_zero'] at hx194_3)
    (try rw [show ((0 : Int)).toNat = 0 from rfl] at hx194_4)
    (try rw [show 0 * 7 = 0 from rfl] at hx194_4)
    (try rw [Addr.add_zero'] at hx194_4)
    (try rw [show ((0 : Int)).toNat = 0 from rfl] at hx194_5)
    (try rw [show 0 * 7 = 0 from rfl] at hx194_5)
    (try rw [Addr.add_zero'] at hx194_5)
    (try rw [show ((0 : Int)).toNat = 0 from rfl] at hx194_6)
    (try rw [show 0 * 7 = 0 from rfl] at hx194_6)
    (try rw [Addr.add_zero'] at hx194_6)
    replace hx194_0 := zH HB hx194_0
    replace hx194_1 := zH HB hx194_1
    replace hx194_2 := zH HB hx194_2
    replace hx194_3 := zH HB hx194_3
    replace hx194_4 := zH HB hx194_4
    replace hx194_5 := zH HB hx194_5
    replace hx194_6 := zH HB hx194_6
    have HR194_5 := zM hi194_5
    have HC194_5 := zM hl194_5
    clear hi194_5 hl194_5
    have HR194_6 := zM hi194_6
    have HC194_6 := zM hl194_6
    clear hi194_6 hl194_6
    replace p194 := eq_true p194
    replace q194 := eq_true q194
    go_wp2_with (first | ((with_reducible refine gate_callee (f := 28) rfl ?_); refine goesL_ (some 28) rfl rfl Try.func28 (by kernel_rfl) rfl #[.agg #[.int .i64 ((rd_T25 l0_6 0).f0), .string ((rd_T25 l0_6 0).f1), .int .i64 ((rd_T25 l0_6 0).f2), .int .i64 ((rd_T25 l0_6 0).f3), .string ((rd_T25 l0_6 0).f4), .slice A194_5 ((rd_T25 l0_6 0).f5).length c194_5, .slice A194_6 ((rd_T25 l0_6 0).f6).length c194_6], .bool (!a1)] rfl yb ?_; (with_reducible refine (ih k (by omega) ((rd_T25 l0_6 0).f0) ((rd_T25 l0_6 0).f1) ((rd_T25 l0_6 0).f2) ((rd_T25 l0_6 0).f3) ((rd_T25 l0_6 0).f4) _ _ ((rd_T25 l0_6 0).f5) _ _ ((rd_T25 l0_6 0).f6) (!a1) t195 t196 t197 t198 t199 t200 t203 _ ?side1 ?side2 ?side3 ?side4 A10.out).mono ?_); (case side1 => exact zC (Kd.C_below HR194_5.out HB.out)); (case side2 => first | exact HC194_5.out | exact Kd.V_mono HC194_5.out (fun k_ hk_ => by grind)); (case side3 => exact zC (Kd.C_below HR194_6.out HB.out)); (case side4 => first | exact HC194_6.out | exact Kd.V_mono HC194_6.out (fun k_ hk_ => by grind)); rintro e w13 ⟨v201, v204, rfl, ho0, ho1, hb⟩; refine ⟨_, rfl, ?_⟩; have HO202 := zM (Kd.V_lower (Kd.V_mono (ok' := fun k_ => (w.heap.size ≤ k_) ∧ k_ ≠ gb192 ∧ k_ ≠ gb193) ho0 (fun k_ hk_ => ⟨(Nat.le_trans (below_size mZ) hk_), (fK BK192 hk_), (fK BK193 hk_)⟩)) (below_size mZ)); have HO205 := zM (Kd.V_lower (Kd.V_mono (ok' := fun k_ => (w.heap.size ≤ k_) ∧ k_ ≠ gb192 ∧ k_ ≠ gb193) ho1 (fun k_ hk_ => ⟨(Nat.le_trans (below_size mZ) hk_), (fK BK192 hk_), (fK BK193 hk_)⟩)) (below_size mZ)); replace BK192 := zK BK192 hb; replace BK193 := zK BK193 hb; replace HB := zM (below_step mZ hb); (try clear hb); (try clear ho0); (try clear ho1); obtain ⟨hcz14_0, hcz14_1, hcz14_2, hcz14_3, hcz14_4, hcz14_5, hcz14_6, hfz14_0, hfz14_1, hfz14_2, hfz14_3, hfz14_4, hfz14_5, hfz14_6⟩ := cells_7 BK193.out; obtain ⟨Ao15, co15, eo15⟩ := Kd.V_slice HO202.out; subst eo15; obtain ⟨Ao16, co16, eo16⟩ := Kd.V_slice HO205.out; subst eo16))
    refine bodyPost_ret (results_cell_row rfl _ _ gb193 25 #[.int .i64 t195, .string t196, .int .i64 t197, .int .i64 t198, .string t199, .slice Ao15 t200.length co15, .slice Ao16 t203.length co16] (0, 0) _ rfl (by (with_reducible repeat (first | refine blk_drewN ?_ _ | refine blk_drew ?_ | refine blk_alloc ?_ _)); apply puts_7; (with_reducible repeat (first | refine blk_drewN ?_ _ | refine blk_drew ?_ | refine blk_alloc ?_ _)); exact BK193.out) Try.underlying25 rfl (by kernel_rfl)) rfl ?_
    exact ⟨_, _, by first | rfl | (simp [errW_none, errW_some] <;> rfl) | (simp [*, errW_none, errW_some] <;> rfl), by (with_reducible repeat (first | apply Kd.V_alloc | apply Kd.V_drewN | apply Kd.V_drew)); exact Kd.V_mono (zgV (Kd.V_mono HO202.out (fun k_ hk => (⟨hk, hk.2.2⟩ : _ ∧ k_ ≠ gb193)))) (fun _ hk => hk.1.1), by (with_reducible repeat (first | apply Kd.V_alloc | apply Kd.V_drewN | apply Kd.V_drew)); exact Kd.V_mono (zgV (Kd.V_mono HO205.out (fun k_ hk => (⟨hk, hk.2.2⟩ : _ ∧ k_ ≠ gb193)))) (fun _ hk => hk.1.1), mZ⟩
   rw [if_neg c9] at H
   exact absurd H (by simp)
  rw [if_neg c8] at H
  have c8b0 : (a0_0 == 3) = false := beq_eq_false_iff_ne.mpr c8
  have c8b1 : (a0_0 != 3) = true := bne_iff_ne.mpr c8
  (first | rw [c8b0] | rw [c8b1] | (simp only [i64_w, i32_w]; rw [c8b0]) | skip)
  have HC17 := zM H
  clear H
  go_upto_if 29 with (fail)
  go_cut [29] (fun v29 wc => ∃ (kq : Nat) (x29_16 : Bool), v29 = .bool x29_16 ∧ Aside0 (pred_normal.j0 kq a1 a0_0 x29_16 a0_0 a0_1 a0_2 a0_3 a0_4 l0_5 l0_6 = some (r1, r2, r3, r4, r5, r6, r7)) ∧ Aside0 (kq ≤ k) ∧ Aside0 (wc.heap[gb192]? = some (.cells #[.int .i64 a0_0, .string a0_1, .int .i64 a0_2, .int .i64 a0_3, .string a0_4, (.slice A0_5 l0_5.length c0_5), (.slice A0_6 l0_6.length c0_6)] 25 (0, 0))) ∧ Aside0 (wc.heap[gb193]? = some (.cells #[.int .i64 0, .string (⟨#[]⟩ : ByteArray), .int .i64 0, .int .i64 0, .string (⟨#[]⟩ : ByteArray), (.slice none 0 0), (.slice none 0 0)] 25 (0, 0))) ∧ Aside0 (Below w.heap.size w wc))
  case first =>
   have H := HC17.out
   clear HC17
   by_cases c18 : a0_0 = 1
   ·rw [if_pos c18] at H
    have c18b0 : (a0_0 == 1) = true := beq_iff_eq.mpr c18
    have c18b1 : (a0_0 != 1) = false := bne_eq_false_iff_eq.mpr c18
    clear c18
    (first | rw [c18b0] | rw [c18b1] | (simp only [i64_w, i32_w]; rw [c18b0]) | skip)
    have H' := Aside0.mk H
    clear H
    go_wp2
    go_meet
    case rel => exact ⟨_, ((a0_0 == 1)), ya, H', ⟨by first | omega | exact Nat.le_refl _⟩, ⟨mK BK192.out⟩, ⟨mK BK193.out⟩, ⟨mZ⟩⟩
   rw [if_neg c18] at H
   have c18b0 : (a0_0 == 1) = false := beq_eq_false_iff_ne.mpr c18
   have c18b1 : (a0_0 != 1) = true := bne_iff_ne.mpr c18
   (first | rw [c18b0] | rw [c18b1] | (simp only [i64_w, i32_w]; rw [c18b0]) | skip)
   have H' := Aside0.mk H
   clear H
   go_wp2
   go_meet
   case rel => exact ⟨_, ((a0_0 == 2)), ya, H', ⟨by first | omega | exact Nat.le_refl _⟩, ⟨mK BK192.out⟩, ⟨mK BK193.out⟩, ⟨mZ⟩⟩
  clear HC17
  try clear c8
  try clear c8b0
  try clear c8b1
  try clear c9
  try clear c9b0
  try clear c9b1
  try clear c18
  try clear c18b0
  try clear c18b1
  try clear hcz12_0
  try clear hcz12_1
  try clear hcz12_2
  try clear hcz12_3
  try clear hcz12_4
  try clear hcz12_5
  try clear hcz12_6
  try clear hcz14_0
  try clear hcz14_1
  try clear hcz14_2
  try clear hcz14_3
  try clear hcz14_4
  try clear hcz14_5
  try clear hcz14_6
  try clear hcz7_0
  try clear hcz7_1
  try clear hcz7_2
  try clear hcz7_3
  try clear hcz7_4
  try clear hcz7_5
  try clear hcz7_6
  try clear hfz12_0
  try clear hfz12_1
  try clear hfz12_2
  try clear hfz12_3
  try clear hfz12_4
  try clear hfz12_5
  try clear hfz12_6
  try clear hfz14_0
  try clear hfz14_1
  try clear hfz14_2
  try clear hfz14_3
  try clear hfz14_4
  try clear hfz14_5
  try clear hfz14_6
  try clear hfz7_0
  try clear hfz7_1
  try clear hfz7_2
  try clear hfz7_3
  try clear hfz7_4
  try clear hfz7_5
  try clear hfz7_6
  try clear hx194_0
  try clear hx194_1
  try clear hx194_2
  try clear hx194_3
  try clear hx194_4
  try clear hx194_5
  try clear hx194_6
  try clear p194
  try clear q194
  obtain ⟨kq, x29_16, rfl, HA, HJ16, BK192, BK193, HB⟩ := hcut
  cases kq with
  | zero => exact absurd HA.out (by simp [pred_normal.j0])
  | succ kj16 =>
   have H := HA.out
   clear HA
   simp only [pred_normal.j0] at H
   by_cases c19 : x29_16 = true
   ·subst c19
    rw [if_pos rfl] at H
    by_cases c20 : a1 = true
    ·subst c20
     rw [if_pos rfl] at H
     have H' := Aside0.mk H
     clear H
     go_wp2
     go_meet
     case rel => exact ⟨_, (wrap64 (3 - a0_0)), (0), ((⟨#[]⟩ : ByteArray)), (0), (0), ((⟨#[]⟩ : ByteArray)), ya, H', ⟨by have := HJ16.out; first | omega | exact Nat.le_refl _⟩, ⟨mK BK192.out⟩, ⟨mK BK193.out⟩, ⟨mZ⟩⟩
    replace c20 := Bool.eq_false_iff.mpr c20
    subst c20
    rw [if_neg (show ¬ (false = true) by decide)] at H
    have H' := Aside0.mk H
    clear H
    go_wp2
    go_meet
    case rel => exact ⟨_, (a0_0), (0), ((⟨#[]⟩ : ByteArray)), (0), (0), ((⟨#[]⟩ : ByteArray)), ya, H', ⟨by have := HJ16.out; first | omega | exact Nat.le_refl _⟩, ⟨mK BK192.out⟩, ⟨mK BK193.out⟩, ⟨mZ⟩⟩
   replace c19 := Bool.eq_false_iff.mpr c19
   subst c19
   rw [if_neg (show ¬ (false = true) by decide)] at H
   by_cases c21 : a1 = true
   ·subst c21
    rw [if_pos rfl] at H
    replace H := Option.bind_eq_some_iff.mp H
    obtain ⟨⟨t206, t207, t208, t209, t210, t211, t214⟩, A220, H⟩ := H
    try dsimp only at H
    have A22 := zM A220
    clear A220
    obtain ⟨y217, hy217⟩ : ∃ y_ : List (S25), y_ = (([(⟨t206, t207, t208, t209, t210, t211, t214⟩ : S25)] : List (S25))) := ⟨_, rfl⟩
    replace H : (some (3, (⟨#[]⟩ : ByteArray), 0, 0, (⟨#[]⟩ : ByteArray), ([] : List ByteArray), y217)) = some (r1, r2, r3, r4, r5, r6, r7) := by first | (rw [hy217]; with_reducible exact H) | (have H2_ := (Option.bind_some _ _).symm.trans H; rw [hy217]; with_reducible exact H2_) | (have H2_ := (Option.bind_some _ _).symm.trans H; with_reducible exact H2_) | with_reducible exact H | (rw [hy217]; exact H) | exact H
    have Ny217 := zM hy217
    clear hy217
    simp only [Option.some.injEq, Prod.mk.injEq] at H
    obtain ⟨rfl, rfl, rfl, rfl, rfl, rfl, rfl⟩ := H
    have hnb23 := NB192_193.out
    have hnc23 := NB193_192.out
    obtain ⟨hcz24_0, hcz24_1, hcz24_2, hcz24_3, hcz24_4, hcz24_5, hcz24_6, hfz24_0, hfz24_1, hfz24_2, hfz24_3, hfz24_4, hfz24_5, hfz24_6⟩ := cells_7 BK192.out
    go_wp2_with (first | ((with_reducible refine gate_callee (f := 27) rfl ?_); refine goesL_ (some 15) rfl rfl Try.func27 (by kernel_rfl) rfl #[.agg #[.int .i64 a0_0, .string a0_1, .int .i64 a0_2, .int .i64 a0_3, .string a0_4, .slice A0_5 l0_5.length c0_5, .slice A0_6 l0_6.length c0_6]] rfl yb ?_; (with_reducible refine (pred_Copy.calls kj16 a0_0 a0_1 a0_2 a0_3 a0_4 _ _ l0_5 _ _ l0_6 t206 t207 t208 t209 t210 t211 t214 _ ?side1 ?side2 ?side3 ?side4 A22.out).mono ?_); (case side1 => exact zC (Kd.C_below HR0_5.out HB.out)); (case side2 => first | exact HC0_5.out | exact Kd.V_mono HC0_5.out (fun k_ hk_ => by grind)); (case side3 => exact zC (Kd.C_below HR0_6.out HB.out)); (case side4 => first | exact HC0_6.out | exact Kd.V_mono HC0_6.out (fun k_ hk_ => by grind)); rintro e w25 ⟨v212, v215, rfl, ho0, ho1, hb⟩; refine ⟨_, rfl, ?_⟩; (try replace ho1 := Kd.S_N ho1); have HO213 := zM (Kd.R_lower (Kd.R_newM (M := fun k_ => (w.heap.size ≤ k_)) ho0 (below_size mZ) (fun k_ h_ => h_)) (below_size mZ)); have HO216 := zM (Kd.N_lower (Kd.N_mono (ok' := fun k_ => (w.heap.size ≤ k_) ∧ some k_ ≠ (v212 : Value).ownBlock ∧ k_ ≠ gb192 ∧ k_ ≠ gb193) (Kd.R_N (Kd.R_bound ho1)) (fun k_ hk_ => ⟨(Nat.le_trans (below_size mZ) hk_.2.1), hk_.1, (fK BK192 hk_.2.1), (fK BK193 hk_.2.1)⟩)) (below_size mZ)); replace BK192 := zK BK192 hb; replace BK193 := zK BK193 hb; replace HB := zM (below_step mZ hb); (try clear hb); (try clear ho0); (try clear ho1); obtain ⟨Ao26, co26, eo26⟩ := Kd.R_slice HO213.out; subst eo26; obtain ⟨Ao27, co27, eo27⟩ := Kd.N_slice HO216.out; subst eo27) | ((with_reducible refine gate_dst (N := 16) rfl ?_); refine Kd.N_lit k25 _ 25 ?hg (N' := 16) ?hd (xs := ([(⟨t206, t207, t208, t209, t210, t211, t214⟩ : S25)] : List (S25))) (inner := [.int .i64 t206, .string t207, .int .i64 t208, .int .i64 t209, .string t210, .slice Ao26 t211.length co26, .slice Ao27 t214.length co27]) (ok := (fun k_ => (w.heap.size ≤ k_) ∧ k_ ≠ gb192 ∧ k_ ≠ gb193)) (okp := (fun k_ => (w.heap.size ≤ k_) ∧ k_ ≠ gb192 ∧ k_ ≠ gb193)) ?hr ?hp (fun _ hk => hk) ⟨(Nat.le_trans (below_size mZ) (Nat.le_refl _)), fK BK192 (Nat.le_refl _), fK BK193 (Nat.le_refl _)⟩ (Below.refl _ _) (Nat.le_refl _) (by simp) ?_; (case hd => rfl); (case hg => rfl); (case hr => first | (go_simp; done) | (go_simp; rfl)); (case hp => exact (Reps.c7 (show Kd.FK k25 _ _ (⟨t206, t207, t208, t209, t210, t211, t214⟩ : S25) [.int .i64 t206, .string t207, .int .i64 t208, .int .i64 t209, .string t210, .slice Ao26 t211.length co26, .slice Ao27 t214.length co27] from (k25_mkF _ _ (⟨t206, t207, t208, t209, t210, t211, t214⟩ : S25) (Kd.R_reads' (Kd.R_mono (ok' := (fun k_ => (w.heap.size ≤ k_) ∧ k_ ≠ gb192 ∧ k_ ≠ gb193)) (Kd.R_types (Kd.R_types (HO213.out) BK192.out (by decide)) BK193.out (by decide)) (fun k_ hk => ⟨hk.1.1.1, ⟨hk.1.2, hk.2⟩⟩))).2.1 (Kd.R_F (by (with_reducible repeat (first | apply Kd.R_alloc | apply Kd.R_drewN | apply Kd.R_drew)); exact (Kd.R_mono (ok' := (fun k_ => (w.heap.size ≤ k_) ∧ k_ ≠ gb192 ∧ k_ ≠ gb193)) (Kd.R_types (Kd.R_types (HO213.out) BK192.out (by decide)) BK193.out (by decide)) (fun k_ hk => ⟨hk.1.1.1, ⟨hk.1.2, hk.2⟩⟩)))) (Kd.N_reads' (Kd.N_mono (ok' := (fun k_ => (w.heap.size ≤ k_) ∧ k_ ≠ gb192 ∧ k_ ≠ gb193)) (HO216.out) (fun k_ hk => ⟨hk.1, ⟨hk.2.2.1, hk.2.2.2⟩⟩))).2.1 (Kd.N_F (by (with_reducible repeat (first | apply Kd.N_alloc | apply Kd.N_drewN | apply Kd.N_drew)); exact (Kd.N_mono (ok' := (fun k_ => (w.heap.size ≤ k_) ∧ k_ ≠ gb192 ∧ k_ ≠ gb193)) (HO216.out) (fun k_ hk => ⟨hk.1, ⟨hk.2.2.1, hk.2.2.2⟩⟩)))))) (Reps.none _ _))); intro v218 w28 ho29 hb hg_ hnew_; clear hg_ hnew_; (first | rw [← Ny217.out] at ho29 | (simp only [Int.reduceToNat] at ho29; rw [← Ny217.out] at ho29)); have HO219 := zM (Kd.N_lower ho29 (below_size mZ)); replace BK192 := zK BK192 hb; replace BK193 := zK BK193 hb; replace HB := zM (below_step mZ hb); clear HO213 HO216; clear hb ho29; obtain ⟨Ao30, co30, eo30⟩ := Kd.N_slice HO219.out; subst eo30; obtain ⟨hcz31_0, hcz31_1, hcz31_2, hcz31_3, hcz31_4, hcz31_5, hcz31_6, hfz31_0, hfz31_1, hfz31_2, hfz31_3, hfz31_4, hfz31_5, hfz31_6⟩ := cells_7 BK193.out))
    refine bodyPost_ret (results_cell_row rfl _ _ gb193 25 #[.int .i64 3, .string (⟨#[]⟩ : ByteArray), .int .i64 0, .int .i64 0, .string (⟨#[]⟩ : ByteArray), .slice none 0 0, .slice Ao30 y217.length co30] (0, 0) _ rfl (by (with_reducible repeat (first | refine blk_drewN ?_ _ | refine blk_drew ?_ | refine blk_alloc ?_ _)); apply puts_7; (with_reducible repeat (first | refine blk_drewN ?_ _ | refine blk_drew ?_ | refine blk_alloc ?_ _)); exact BK193.out) Try.underlying25 rfl (by kernel_rfl)) rfl ?_
    exact ⟨_, _, by first | rfl | (simp [errW_none, errW_some] <;> rfl) | (simp [*, errW_none, errW_some] <;> rfl), by first | exact Kd.V_nil _ _ _ _ _ | (exact (by first | exact Kd.R_nil _ _ _ _ _ | exact Kd.N_nil _ _ _ _ _ | exact Kd.V_nil _ _ _ _ _ | exact Kd.Q_nil _ _ _ _ _ | exact Kd.S_nil _ _ _ _ _)), Kd.N_V (by (with_reducible repeat (first | apply Kd.N_alloc | apply Kd.N_drewN | apply Kd.N_drew)); exact Kd.N_mono (zgN (Kd.N_mono HO219.out (fun k_ hk => (⟨hk, hk.2.2⟩ : _ ∧ k_ ≠ gb193)))) (fun _ hk => hk.1.1)), mZ⟩
   replace c21 := Bool.eq_false_iff.mpr c21
   subst c21
   rw [if_neg (show ¬ (false = true) by decide)] at H
   replace H := Option.bind_eq_some_iff.mp H
   obtain ⟨⟨t220, t221, t222, t223, t224, t225, t228⟩, A320, H⟩ := H
   try dsimp only at H
   have A32 := zM A320
   clear A320
   simp only [Option.some.injEq, Prod.mk.injEq] at H
   obtain ⟨rfl, rfl, rfl, rfl, rfl, rfl, rfl⟩ := H
   have hnb33 := NB192_193.out
   have hnc33 := NB193_192.out
   obtain ⟨hcz34_0, hcz34_1, hcz34_2, hcz34_3, hcz34_4, hcz34_5, hcz34_6, hfz34_0, hfz34_1, hfz34_2, hfz34_3, hfz34_4, hfz34_5, hfz34_6⟩ := cells_7 BK192.out
   go_wp2_with (first | ((with_reducible refine gate_callee (f := 27) rfl ?_); refine goesL_ (some 19) rfl rfl Try.func27 (by kernel_rfl) rfl #[.agg #[.int .i64 a0_0, .string a0_1, .int .i64 a0_2, .int .i64 a0_3, .string a0_4, .slice A0_5 l0_5.length c0_5, .slice A0_6 l0_6.length c0_6]] rfl yb ?_; (with_reducible refine (pred_Copy.calls kj16 a0_0 a0_1 a0_2 a0_3 a0_4 _ _ l0_5 _ _ l0_6 t220 t221 t222 t223 t224 t225 t228 _ ?side1 ?side2 ?side3 ?side4 A32.out).mono ?_); (case side1 => exact zC (Kd.C_below HR0_5.out HB.out)); (case side2 => first | exact HC0_5.out | exact Kd.V_mono HC0_5.out (fun k_ hk_ => by grind)); (case side3 => exact zC (Kd.C_below HR0_6.out HB.out)); (case side4 => first | exact HC0_6.out | exact Kd.V_mono HC0_6.out (fun k_ hk_ => by grind)); rintro e w35 ⟨v226, v229, rfl, ho0, ho1, hb⟩; refine ⟨_, rfl, ?_⟩; (try replace ho1 := Kd.S_N ho1); have HO227 := zM (Kd.R_lower (Kd.R_newM (M := fun k_ => (w.heap.size ≤ k_)) ho0 (below_size mZ) (fun k_ h_ => h_)) (below_size mZ)); have HO230 := zM (Kd.N_lower (Kd.N_mono (ok' := fun k_ => (w.heap.size ≤ k_) ∧ some k_ ≠ (v226 : Value).ownBlock ∧ k_ ≠ gb192 ∧ k_ ≠ gb193) (Kd.R_N (Kd.R_bound ho1)) (fun k_ hk_ => ⟨(Nat.le_trans (below_size mZ) hk_.2.1), hk_.1, (fK BK192 hk_.2.1), (fK BK193 hk_.2.1)⟩)) (below_size mZ)); replace BK192 := zK BK192 hb; replace BK193 := zK BK193 hb; replace HB := zM (below_step mZ hb); (try clear hb); (try clear ho0); (try clear ho1); obtain ⟨hcz36_0, hcz36_1, hcz36_2, hcz36_3, hcz36_4, hcz36_5, hcz36_6, hfz36_0, hfz36_1, hfz36_2, hfz36_3, hfz36_4, hfz36_5, hfz36_6⟩ := cells_7 BK193.out; obtain ⟨Ao37, co37, eo37⟩ := Kd.R_slice HO227.out; subst eo37; obtain ⟨Ao38, co38, eo38⟩ := Kd.N_slice HO230.out; subst eo38))
   refine bodyPost_ret (results_cell_row rfl _ _ gb193 25 #[.int .i64 t220, .string t221, .int .i64 t222, .int .i64 t223, .string t224, .slice Ao37 t225.length co37, .slice Ao38 t228.length co38] (0, 0) _ rfl (by (with_reducible repeat (first | refine blk_drewN ?_ _ | refine blk_drew ?_ | refine blk_alloc ?_ _)); apply puts_7; (with_reducible repeat (first | refine blk_drewN ?_ _ | refine blk_drew ?_ | refine blk_alloc ?_ _)); exact BK193.out) Try.underlying25 rfl (by kernel_rfl)) rfl ?_
   exact ⟨_, _, by first | rfl | (simp [errW_none, errW_some] <;> rfl) | (simp [*, errW_none, errW_some] <;> rfl), Kd.R_V (by (with_reducible repeat (first | apply Kd.R_alloc | apply Kd.R_drewN | apply Kd.R_drew)); exact Kd.R_mono (zgR (Kd.R_types HO227.out BK193.out (by decide))) (fun _ hk => hk.1.1)), Kd.N_V (by (with_reducible repeat (first | apply Kd.N_alloc | apply Kd.N_drewN | apply Kd.N_drew)); exact Kd.N_mono (zgN (Kd.N_mono HO230.out (fun k_ hk => (⟨hk, hk.2.2.2⟩ : _ ∧ k_ ≠ gb193)))) (fun _ hk => hk.1.1)), mZ⟩
 clear HC3
 try clear c7
 try clear c8
 try clear c8b0
 try clear c8b1
 try clear c9
 try clear c9b0
 try clear c9b1
 try clear c18
 try clear c18b0
 try clear c18b1
 try clear c19
 try clear c20
 try clear c21
 try clear hcz12_0
 try clear hcz12_1
 try clear hcz12_2
 try clear hcz12_3
 try clear hcz12_4
 try clear hcz12_5
 try clear hcz12_6
 try clear hcz14_0
 try clear hcz14_1
 try clear hcz14_2
 try clear hcz14_3
 try clear hcz14_4
 try clear hcz14_5
 try clear hcz14_6
 try clear hcz24_0
 try clear hcz24_1
 try clear hcz24_2
 try clear hcz24_3
 try clear hcz24_4
 try clear hcz24_5
 try clear hcz24_6
 try clear hcz31_0
 try clear hcz31_1
 try clear hcz31_2
 try clear hcz31_3
 try clear hcz31_4
 try clear hcz31_5
 try clear hcz31_6
 try clear hcz34_0
 try clear hcz34_1
 try clear hcz34_2
 try clear hcz34_3
 try clear hcz34_4
 try clear hcz34_5
 try clear hcz34_6
 try clear hcz36_0
 try clear hcz36_1
 try clear hcz36_2
 try clear hcz36_3
 try clear hcz36_4
 try clear hcz36_5
 try clear hcz36_6
 try clear hcz7_0
 try clear hcz7_1
 try clear hcz7_2
 try clear hcz7_3
 try clear hcz7_4
 try clear hcz7_5
 try clear hcz7_6
 try clear hfz12_0
 try clear hfz12_1
 try clear hfz12_2
 try clear hfz12_3
 try clear hfz12_4
 try clear hfz12_5
 try clear hfz12_6
 try clear hfz14_0
 try clear hfz14_1
 try clear hfz14_2
 try clear hfz14_3
 try clear hfz14_4
 try clear hfz14_5
 try clear hfz14_6
 try clear hfz24_0
 try clear hfz24_1
 try clear hfz24_2
 try clear hfz24_3
 try clear hfz24_4
 try clear hfz24_5
 try clear hfz24_6
 try clear hfz31_0
 try clear hfz31_1
 try clear hfz31_2
 try clear hfz31_3
 try clear hfz31_4
 try clear hfz31_5
 try clear hfz31_6
 try clear hfz34_0
 try clear hfz34_1
 try clear hfz34_2
 try clear hfz34_3
 try clear hfz34_4
 try clear hfz34_5
 try clear hfz34_6
 try clear hfz36_0
 try clear hfz36_1
 try clear hfz36_2
 try clear hfz36_3
 try clear hfz36_4
 try clear hfz36_5
 try clear hfz36_6
 try clear hfz7_0
 try clear hfz7_1
 try clear hfz7_2
 try clear hfz7_3
 try clear hfz7_4
 try clear hfz7_5
 try clear hfz7_6
 try clear hx194_0
 try clear hx194_1
 try clear hx194_2
 try clear hx194_3
 try clear hx194_4
 try clear hx194_5
 try clear hx194_6
 try clear p194
 try clear q194
 obtain ⟨kq, x5_2, x194000_2, x194001_2, x194002_2, x194003_2, x194004_2, rfl, HA, HJ2, BK192, BK193, HB⟩ := hcut
 cases kq with
 | zero => exact absurd HA.out (by simp [pred_normal.j1])
 | succ kj2 =>
  have H := HA.out
  clear HA
  simp only [pred_normal.j1] at H
  have H' := Aside0.mk H
  clear H
  go_wp2_with (first | ((with_reducible refine gate_dst (N := 6) rfl ?_); refine box_event ?hg (N := 6) ?hd (cs := #[.int .i64 0, .string (⟨#[]⟩ : ByteArray), .int .i64 0, .int .i64 0, .string (⟨#[]⟩ : ByteArray), .slice none 0 0, .slice none 0 0]) (t := 25) ?hr ?_; (case hd => rfl); (case hg => rfl); (case hr => first | (go_simp; done) | (go_simp; rfl)); intro gb231 hg w39 hbox hb; have BK231 := zM (hbox); have GW231 := zM ((by rw [hg]; exact (below_size mZ) : w.heap.size ≤ gb231)); replace HB := zM (below_step mZ hb); have GE231 := GW231; have NB192_231 := zL BK192 hg; have NB231_192 := zG BK192 hg; replace BK192 := zK BK192 hb; have NB193_231 := zL BK193 hg; have NB231_193 := zG BK193 hg; replace BK193 := zK BK193 hb; clear hb hbox hg; have hnb40 := NB231_192.out; have hnc40 := NB192_231.out; have hnb41 := NB231_193.out; have hnc41 := NB193_231.out; obtain ⟨hcz42_0, hcz42_1, hcz42_2, hcz42_3, hcz42_4, hcz42_5, hcz42_6, hfz42_0, hfz42_1, hfz42_2, hfz42_3, hfz42_4, hfz42_5, hfz42_6⟩ := cells_7 BK231.out; have hnb43 := NB192_193.out; have hnc43 := NB193_192.out; obtain ⟨hcz44_0, hcz44_1, hcz44_2, hcz44_3, hcz44_4, hcz44_5, hcz44_6, hfz44_0, hfz44_1, hfz44_2, hfz44_3, hfz44_4, hfz44_5, hfz44_6⟩ := cells_7 BK192.out))
  try simp only [Act.put, List.setIfInBounds_toArray, List.set_cons_zero, List.set_cons_succ]
  go_loopg [40] kj2 (fun kq v40 w' => ∃ (x40_2 : Int) (x232006_2 : List (S25)) (u232006 : Value), v40 = .int .i64 x40_2 ∧ Aside0 (pred_normal.l0 kq a1 x5_2 l0_6 (l0_6.length : Int) x40_2 x5_2 (⟨#[]⟩ : ByteArray) 0 0 (⟨#[]⟩ : ByteArray) x232006_2 = some (r1, r2, r3, r4, r5, r6, r7)) ∧ Aside0 (kq ≤ kj2) ∧ Aside0 (Kd.N k25 25 w' w.heap.size (fun k_ => (w.heap.size ≤ k_) ∧ k_ ≠ gb192 ∧ k_ ≠ gb193 ∧ k_ ≠ gb231) u232006 x232006_2) ∧ Aside0 (w'.heap[gb192]? = some (.cells #[.int .i64 a0_0, .string a0_1, .int .i64 a0_2, .int .i64 a0_3, .string a0_4, (.slice A0_5 l0_5.length c0_5), (.slice A0_6 l0_6.length c0_6)] 25 (0, 0))) ∧ Aside0 (w'.heap[gb193]? = some (.cells #[.int .i64 x194000_2, .string x194001_2, .int .i64 x194002_2, .int .i64 x194003_2, .string x194004_2, (.slice none 0 0), (.slice none 0 0)] 25 (0, 0))) ∧ Aside0 (w'.heap[gb231]? = some (.cells #[.int .i64 x5_2, .string (⟨#[]⟩ : ByteArray), .int .i64 0, .int .i64 0, .string (⟨#[]⟩ : ByteArray), (.slice none 0 0), u232006] 25 (0, 0))) ∧ Aside0 (Below w.heap.size w w'))
  case atStart => exact ⟨(0), (([] : List (S25))), (.slice none 0 0), ya, H', ⟨Nat.le_refl _⟩, ⟨by first | exact Kd.R_nil _ _ _ _ _ | exact Kd.N_nil _ _ _ _ _ | exact Kd.V_nil _ _ _ _ _ | exact Kd.Q_nil _ _ _ _ _ | exact Kd.S_nil _ _ _ _ _⟩, ⟨by (with_reducible repeat (first | refine blk_drewN ?_ _ | refine blk_drew ?_ | refine blk_alloc ?_ _)); refine blk_far ?_ NB192_231.out _; refine blk_far ?_ NB192_231.out _; refine blk_far ?_ NB192_231.out _; refine blk_far ?_ NB192_231.out _; refine blk_far ?_ NB192_231.out _; refine blk_far ?_ NB192_231.out _; refine blk_far ?_ NB192_231.out _; (with_reducible repeat (first | refine blk_drewN ?_ _ | refine blk_drew ?_ | refine blk_alloc ?_ _)); exact BK192.out⟩, ⟨by (with_reducible repeat (first | refine blk_drewN ?_ _ | refine blk_drew ?_ | refine blk_alloc ?_ _)); refine blk_far ?_ NB193_231.out _; refine blk_far ?_ NB193_231.out _; refine blk_far ?_ NB193_231.out _; refine blk_far ?_ NB193_231.out _; refine blk_far ?_ NB193_231.out _; refine blk_far ?_ NB193_231.out _; refine blk_far ?_ NB193_231.out _; (with_reducible repeat (first | refine blk_drewN ?_ _ | refine blk_drew ?_ | refine blk_alloc ?_ _)); exact BK193.out⟩, ⟨by (with_reducible repeat (first | refine blk_drewN ?_ _ | refine blk_drew ?_ | refine blk_alloc ?_ _)); apply puts_7; (with_reducible repeat (first | refine blk_drewN ?_ _ | refine blk_drew ?_ | refine blk_alloc ?_ _)); exact BK231.out⟩, ⟨mZ⟩⟩
  case round =>
   clear H'
   try clear c7
   try clear c8
   try clear c8b0
   try clear c8b1
   try clear c9
   try clear c9b0
   try clear c9b1
   try clear c18
   try clear c18b0
   try clear c18b1
   try clear c19
   try clear c20
   try clear c21
   try clear hcz12_0
   try clear hcz12_1
   try clear hcz12_2
   try clear hcz12_3
   try clear hcz12_4
   try clear hcz12_5
   try clear hcz12_6
   try clear hcz14_0
   try clear hcz14_1
   try clear hcz14_2
   try clear hcz14_3
   try clear hcz14_4
   try clear hcz14_5
   try clear hcz14_6
   try clear hcz24_0
   try clear hcz24_1
   try clear hcz24_2
   try clear hcz24_3
   try clear hcz24_4
   try clear hcz24_5
   try clear hcz24_6
   try clear hcz31_0
   try clear hcz31_1
   try clear hcz31_2
   try clear hcz31_3
   try clear hcz31_4
   try clear hcz31_5
   try clear hcz31_6
   try clear hcz34_0
   try clear hcz34_1
   try clear hcz34_2
   try clear hcz34_3
   try clear hcz34_4
   try clear hcz34_5
   try clear hcz34_6
   try clear hcz36_0
   try clear hcz36_1
   try clear hcz36_2
   try clear hcz36_3
   try clear hcz36_4
   try clear hcz36_5
   try clear hcz36_6
   try clear hcz42_0
   try clear hcz42_1
   try clear hcz42_2
   try clear hcz42_3
   try clear hcz42_4
   try clear hcz42_5
   try clear hcz42_6
   try clear hcz44_0
   try clear hcz44_1
   try clear hcz44_2
   try clear hcz44_3
   try clear hcz44_4
   try clear hcz44_5
   try clear hcz44_6
   try clear hcz7_0
   try clear hcz7_1
   try clear hcz7_2
   try clear hcz7_3
   try clear hcz7_4
   try clear hcz7_5
   try clear hcz7_6
   try clear hfz12_0
   try clear hfz12_1
   try clear hfz12_2
   try clear hfz12_3
   try clear hfz12_4
   try clear hfz12_5
   try clear hfz12_6
   try clear hfz14_0
   try clear hfz14_1
   try clear hfz14_2
   try clear hfz14_3
   try clear hfz14_4
   try clear hfz14_5
   try clear hfz14_6
   try clear hfz24_0
   try clear hfz24_1
   try clear hfz24_2
   try clear hfz24_3
   try clear hfz24_4
   try clear hfz24_5
   try clear hfz24_6
   try clear hfz31_0
   try clear hfz31_1
   try clear hfz31_2
   try clear hfz31_3
   try clear hfz31_4
   try clear hfz31_5
   try clear hfz31_6
   try clear hfz34_0
   try clear hfz34_1
   try clear hfz34_2
   try clear hfz34_3
   try clear hfz34_4
   try clear hfz34_5
   try clear hfz34_6
   try clear hfz36_0
   try clear hfz36_1
   try clear hfz36_2
   try clear hfz36_3
   try clear hfz36_4
   try clear hfz36_5
   try clear hfz36_6
   try clear hfz42_0
   try clear hfz42_1
   try clear hfz42_2
   try clear hfz42_3
   try clear hfz42_4
   try clear hfz42_5
   try clear hfz42_6
   try clear hfz44_0
   try clear hfz44_1
   try clear hfz44_2
   try clear hfz44_3
   try clear hfz44_4
   try clear hfz44_5
   try clear hfz44_6
   try clear hfz7_0
   try clear hfz7_1
   try clear hfz7_2
   try clear hfz7_3
   try clear hfz7_4
   try clear hfz7_5
   try clear hfz7_6
   try clear hx194_0
   try clear hx194_1
   try clear hx194_2
   try clear hx194_3
   try clear hx194_4
   try clear hx194_5
   try clear hx194_6
   try clear p194
   try clear q194
   try clear BK192
   try clear BK193
   try clear BK231
   obtain ⟨x40_2, x232006_2, u232006, rfl, HA, HK2, HO_232006, BK192, BK193, BK231, HB⟩ := hrel
   cases gk with
   | zero => exact absurd HA.out (by simp [pred_normal.l0])
   | succ k2 =>
    have H := HA.out
    clear HA
    simp only [pred_normal.l0] at H
    by_cases c45 : x40_2 < (l0_6.length : Int)
    ·rw [if_pos c45] at H
     have c45b0 : decide (x40_2 < (l0_6.length : Int)) = true := decide_eq_true c45
     clear c45
     by_cases c46 : 0 ≤ x40_2
     ·rw [if_pos c46] at H
      have c46b0 : decide (0 ≤ x40_2) = true := decide_eq_true c46
      clear c46
      by_cases c47 : x40_2 < (l0_6.length : Int)
      ·rw [if_pos c47] at H
       have c47b0 : decide (x40_2 < (l0_6.length : Int)) = true := decide_eq_true c47
       clear c47
       replace H := Option.bind_eq_some_iff.mp H
       obtain ⟨⟨t234, t235, t236, t237, t238, t239, t242⟩, A480, H⟩ := H
       try dsimp only at H
       have A48 := zM A480
       clear A480
       by_cases c49 : t234 = x5_2
       ·rw [if_pos c49] at H
        have c49b0 : (t234 == x5_2) = true := beq_iff_eq.mpr c49
        have c49b1 : (t234 != x5_2) = false := bne_eq_false_iff_eq.mpr c49
        clear c49
        by_cases c50 : x232006_2.length + t242.length < 1353245080339
        ·rw [if_pos c50] at H
         have LMc50 := zM c50
         clear c50
         obtain ⟨y246, hy246⟩ : ∃ y_ : List (S25), y_ = (x232006_2 ++ t242) := ⟨_, rfl⟩
         replace H : (pred_normal.l0 k2 a1 x5_2 l0_6 (l0_6.length : Int) (wrap64 (x40_2 + 1)) x5_2 (⟨#[]⟩ : ByteArray) 0 0 (⟨#[]⟩ : ByteArray) y246) = some (r1, r2, r3, r4, r5, r6, r7) := by first | (rw [hy246]; with_reducible exact H) | (have H2_ := (Option.bind_some _ _).symm.trans H; rw [hy246]; with_reducible exact H2_) | (have H2_ := (Option.bind_some _ _).symm.trans H; with_reducible exact H2_) | with_reducible exact H | (rw [hy246]; exact H) | exact H
         have Ny246 := zM hy246
         clear hy246
         have H' := Aside0.mk H
         clear H
         have p232 : 0 ≤ (x40_2 : Int) := zA
         have q232 : x40_2 < (l0_6.length : Int) := zA
         obtain ⟨ad232, A232_5, c232_5, A232_6, c232_6, e232, hx232_0, hx232_1, hx232_2, hx232_3, hx232_4, hx232_5, hx232_6, hl232_5, hi232_5, hl232_6, hi232_6⟩ := at_T25 HR0_6.out x40_2 p232 q232
         cases e232
         replace hx232_0 := zH HB hx232_0
         replace hx232_1 := zH HB hx232_1
         replace hx232_2 := zH HB hx232_2
         replace hx232_3 := zH HB hx232_3
         replace hx232_4 := zH HB hx232_4
         replace hx232_5 := zH HB hx232_5
         replace hx232_6 := zH HB hx232_6
         have HR232_5 := zM hi232_5
         have HC232_5 := zM hl232_5
         clear hi232_5 hl232_5
         have HR232_6 := zM hi232_6
         have HC232_6 := zM hl232_6
         clear hi232_6 hl232_6
         replace p232 := eq_true p232
         replace q232 := eq_true q232
         go_wp2_with (first | ((with_reducible refine gate_dst (N := 8) rfl ?_); refine box_event ?hg (N := 8) ?hd (cs := #[.int .i64 0, .string (⟨#[]⟩ : ByteArray), .int .i64 0, .int .i64 0, .string (⟨#[]⟩ : ByteArray), .slice none 0 0, .slice none 0 0]) (t := 25) ?hr ?_; (case hd => rfl); (case hg => rfl); (case hr => first | (go_simp; done) | (go_simp; rfl)); intro gb233 hg w51 hbox hb; replace HO_232006 := zM (Kd.N_below (Kd.N_elderB (mN HO_232006.out) gb233 (Nat.le_of_eq hg.symm)) hb); have BK233 := zM (hbox); have GW233 := zM ((by rw [hg]; exact (below_size mZ) : w.heap.size ≤ gb233)); replace HB := zM (below_step mZ hb); have GE233 := GW233; have NB192_233 := zL BK192 hg; have NB233_192 := zG BK192 hg; replace BK192 := zK BK192 hb; have NB193_233 := zL BK193 hg; have NB233_193 := zG BK193 hg; replace BK193 := zK BK193 hb; have NB231_233 := zL BK231 hg; have NB233_231 := zG BK231 hg; replace BK231 := zK BK231 hb; clear hb hbox hg; have hnb52 := NB233_192.out; have hnc52 := NB192_233.out; have hnb53 := NB233_193.out; have hnc53 := NB193_233.out; have hnb54 := NB233_231.out; have hnc54 := NB231_233.out; obtain ⟨hcz55_0, hcz55_1, hcz55_2, hcz55_3, hcz55_4, hcz55_5, hcz55_6, hfz55_0, hfz55_1, hfz55_2, hfz55_3, hfz55_4, hfz55_5, hfz55_6⟩ := cells_7 BK233.out) | ((with_reducible refine gate_callee (f := 28) rfl ?_); refine goesL_ (some 46) rfl rfl Try.func28 (by kernel_rfl) rfl #[.agg #[.int .i64 ((rd_T25 l0_6 x40_2).f0), .string ((rd_T25 l0_6 x40_2).f1), .int .i64 ((rd_T25 l0_6 x40_2).f2), .int .i64 ((rd_T25 l0_6 x40_2).f3), .string ((rd_T25 l0_6 x40_2).f4), .slice A232_5 ((rd_T25 l0_6 x40_2).f5).length c232_5, .slice A232_6 ((rd_T25 l0_6 x40_2).f6).length c232_6], .bool a1] rfl yb ?_; (with_reducible refine (ih k2 (by have := HJ2.out; have := HK2.out; omega) ((rd_T25 l0_6 x40_2).f0) ((rd_T25 l0_6 x40_2).f1) ((rd_T25 l0_6 x40_2).f2) ((rd_T25 l0_6 x40_2).f3) ((rd_T25 l0_6 x40_2).f4) _ _ ((rd_T25 l0_6 x40_2).f5) _ _ ((rd_T25 l0_6 x40_2).f6) a1 t234 t235 t236 t237 t238 t239 t242 _ ?side1 ?side2 ?side3 ?side4 A48.out).mono ?_); (case side1 => exact Kd.C_below HR232_5.out mZ); (case side2 => first | exact HC232_5.out | exact Kd.V_mono HC232_5.out (fun k_ hk_ => by grind)); (case side3 => exact Kd.C_below HR232_6.out mZ); (case side4 => first | exact HC232_6.out | exact Kd.V_mono HC232_6.out (fun k_ hk_ => by grind)); rintro e w56 ⟨v240, v243, rfl, ho0, ho1, hb⟩; refine ⟨_, rfl, ?_⟩; have HO241 := zM (Kd.V_lower (Kd.V_mono (ok' := fun k_ => (w.heap.size ≤ k_) ∧ some k_ ≠ (u232006 : Value).ownBlock ∧ k_ ≠ gb192 ∧ k_ ≠ gb193 ∧ k_ ≠ gb231 ∧ k_ ≠ gb233) ho0 (fun k_ hk_ => ⟨(Nat.le_trans (below_size mZ) hk_), (Kd.fresh' (Kd.N_lt (by (with_reducible repeat (first | apply Kd.N_alloc | apply Kd.N_drewN | apply Kd.N_drew)); exact (Kd.N_mono (zgN (Kd.N_mono HO_232006.out (fun k_ hk => (⟨hk, hk.2⟩ : _ ∧ k_ ≠ gb233)))) (fun _ h_ => h_.1)))) k_ hk_), (Kd.freshB (zF BK192.out NB192_233.out) k_ hk_), (Kd.freshB (zF BK193.out NB193_233.out) k_ hk_), (Kd.freshB (zF BK231.out NB231_233.out) k_ hk_), (Kd.freshB (g := gb233) (o := .cells #[.int .i64 ((rd_T25 l0_6 x40_2).f0), .string ((rd_T25 l0_6 x40_2).f1), .int .i64 ((rd_T25 l0_6 x40_2).f2), .int .i64 ((rd_T25 l0_6 x40_2).f3), .string ((rd_T25 l0_6 x40_2).f4), .slice A232_5 ((rd_T25 l0_6 x40_2).f5).length c232_5, .slice A232_6 ((rd_T25 l0_6 x40_2).f6).length c232_6] 25 (0, 0)) (by (with_reducible repeat (first | refine blk_drewN ?_ _ | refine blk_drew ?_ | refine blk_alloc ?_ _)); apply puts_7; (with_reducible repeat (first | refine blk_drewN ?_ _ | refine blk_drew ?_ | refine blk_alloc ?_ _)); exact BK233.out) k_ hk_)⟩)) (below_size mZ)); have HO244 := zM (Kd.V_lower (Kd.V_mono (ok' := fun k_ => (w.heap.size ≤ k_) ∧ some k_ ≠ (u232006 : Value).ownBlock ∧ k_ ≠ gb192 ∧ k_ ≠ gb193 ∧ k_ ≠ gb231 ∧ k_ ≠ gb233) ho1 (fun k_ hk_ => ⟨(Nat.le_trans (below_size mZ) hk_), (Kd.fresh' (Kd.N_lt (by (with_reducible repeat (first | apply Kd.N_alloc | apply Kd.N_drewN | apply Kd.N_drew)); exact (Kd.N_mono (zgN (Kd.N_mono HO_232006.out (fun k_ hk => (⟨hk, hk.2⟩ : _ ∧ k_ ≠ gb233)))) (fun _ h_ => h_.1)))) k_ hk_), (Kd.freshB (zF BK192.out NB192_233.out) k_ hk_), (Kd.freshB (zF BK193.out NB193_233.out) k_ hk_), (Kd.freshB (zF BK231.out NB231_233.out) k_ hk_), (Kd.freshB (g := gb233) (o := .cells #[.int .i64 ((rd_T25 l0_6 x40_2).f0), .string ((rd_T25 l0_6 x40_2).f1), .int .i64 ((rd_T25 l0_6 x40_2).f2), .int .i64 ((rd_T25 l0_6 x40_2).f3), .string ((rd_T25 l0_6 x40_2).f4), .slice A232_5 ((rd_T25 l0_6 x40_2).f5).length c232_5, .slice A232_6 ((rd_T25 l0_6 x40_2).f6).length c232_6] 25 (0, 0)) (by (with_reducible repeat (first | refine blk_drewN ?_ _ | refine blk_drew ?_ | refine blk_alloc ?_ _)); apply puts_7; (with_reducible repeat (first | refine blk_drewN ?_ _ | refine blk_drew ?_ | refine blk_alloc ?_ _)); exact BK233.out) k_ hk_)⟩)) (below_size mZ)); replace HO_232006 := zM (Kd.N_below (by (with_reducible repeat (first | apply Kd.N_alloc | apply Kd.N_drewN | apply Kd.N_drew)); exact (Kd.N_mono (zgN (Kd.N_mono HO_232006.out (fun k_ hk => (⟨hk, hk.2⟩ : _ ∧ k_ ≠ gb233)))) (fun _ h_ => h_.1))) hb); replace BK192 := zM (blk_below (zF BK192.out NB192_233.out) hb); replace BK193 := zM (blk_below (zF BK193.out NB193_233.out) hb); replace BK231 := zM (blk_below (zF BK231.out NB231_233.out) hb); replace BK233 := zP7 BK233 hb; replace HB := zM (below_step mZ hb); (try clear hb); (try clear ho0); (try clear ho1)) | ((with_reducible refine gate_dst (N := 9) rfl ?_); refine box_event ?hg (N := 9) ?hd (cs := #[.int .i64 0, .string (⟨#[]⟩ : ByteArray), .int .i64 0, .int .i64 0, .string (⟨#[]⟩ : ByteArray), .slice none 0 0, .slice none 0 0]) (t := 25) ?hr ?_; (case hd => rfl); (case hg => rfl); (case hr => first | (go_simp; done) | (go_simp; rfl)); intro gb245 hg w57 hbox hb; replace HO_232006 := zM (Kd.N_below (Kd.N_elderB (mN HO_232006.out) gb245 (Nat.le_of_eq hg.symm)) hb); replace HO241 := zM (Kd.V_below (Kd.V_elderB (mV HO241.out) gb245 (Nat.le_of_eq hg.symm)) hb); replace HO244 := zM (Kd.V_below (Kd.V_elderB (mV HO244.out) gb245 (Nat.le_of_eq hg.symm)) hb); have BK245 := zM (hbox); have GW245 := zM ((by rw [hg]; exact (below_size mZ) : w.heap.size ≤ gb245)); replace HB := zM (below_step mZ hb); have GE245 := GW245; have NB192_245 := zL BK192 hg; have NB245_192 := zG BK192 hg; replace BK192 := zK BK192 hb; have NB193_245 := zL BK193 hg; have NB245_193 := zG BK193 hg; replace BK193 := zK BK193 hb; have NB231_245 := zL BK231 hg; have NB245_231 := zG BK231 hg; replace BK231 := zK BK231 hb; have NB233_245 := zL BK233 hg; have NB245_233 := zG BK233 hg; replace BK233 := zK BK233 hb; clear hb hbox hg; have hnb58 := NB245_192.out; have hnc58 := NB192_245.out; have hnb59 := NB245_193.out; have hnc59 := NB193_245.out; have hnb60 := NB245_231.out; have hnc60 := NB231_245.out; have hnb61 := NB245_233.out; have hnc61 := NB233_245.out; obtain ⟨hcz62_0, hcz62_1, hcz62_2, hcz62_3, hcz62_4, hcz62_5, hcz62_6, hfz62_0, hfz62_1, hfz62_2, hfz62_3, hfz62_4, hfz62_5, hfz62_6⟩ := cells_7 BK245.out; obtain ⟨Ao63, co63, eo63⟩ := Kd.V_slice HO241.out; subst eo63; obtain ⟨Ao64, co64, eo64⟩ := Kd.V_slice HO244.out; subst eo64; have hnb65 := NB231_192.out; have hnc65 := NB192_231.out; have hnb66 := NB231_193.out; have hnc66 := NB193_231.out; obtain ⟨hcz67_0, hcz67_1, hcz67_2, hcz67_3, hcz67_4, hcz67_5, hcz67_6, hfz67_0, hfz67_1, hfz67_2, hfz67_3, hfz67_4, hfz67_5, hfz67_6⟩ := cells_7 BK231.out) | ((with_reducible refine gate_builtin (b := .append) (xs := #[.tmp 52, .tmp 54]) rfl ?_); at_builtin; refine Kd.N_append_rows k25 (w0 := w) w.heap.size rfl (.tmp 52) (.tmp 54) 23 25 (.agg #[(.int .i64 0), (.string ⟨#[]⟩), (.int .i64 0), (.int .i64 0), (.string ⟨#[]⟩), (.slice none 0 0), (.slice none 0 0)]) 104 rfl Try.underlying23 info25 rfl (by decide) (by omega) u232006 x232006_2 t242 _ _ _ (fun k_ => (w.heap.size ≤ k_) ∧ k_ ≠ gb192 ∧ k_ ≠ gb193 ∧ k_ ≠ gb231 ∧ k_ ≠ gb233 ∧ k_ ≠ gb245) (fun k_ => ((fun k_ => (w.heap.size ≤ k_) ∧ k_ ≠ gb192 ∧ k_ ≠ gb193 ∧ k_ ≠ gb231 ∧ k_ ≠ gb233 ∧ k_ ≠ gb245)) k_ ∧ some k_ ≠ (u232006 : Value).ownBlock) rfl rfl ?aO ?aR (fun _ hk => hk) ?aF ?aB ?aS ?aL ?_; (case aR => exact (by skip; exact Kd.V_F (Kd.V_mono (ok' := (fun k_ => ((fun k_ => (w.heap.size ≤ k_) ∧ k_ ≠ gb192 ∧ k_ ≠ gb193 ∧ k_ ≠ gb231 ∧ k_ ≠ gb233 ∧ k_ ≠ gb245)) k_ ∧ some k_ ≠ (u232006 : Value).ownBlock)) ((zgV (Kd.V_mono HO244.out (fun k_ hk => (⟨hk, hk.2⟩ : _ ∧ k_ ≠ gb245))))) (fun k_ hk => ⟨⟨hk.1.1.1, ⟨hk.1.1.2.2.1, ⟨hk.1.1.2.2.2.1, ⟨hk.1.1.2.2.2.2.1, ⟨hk.1.1.2.2.2.2.2, hk.1.2⟩⟩⟩⟩⟩, hk.1.1.2.1⟩)))); (case aB => exact mZ); (case aF => exact (fun k_ hk => ⟨(Nat.le_trans (below_size mZ) hk), Kd.freshB (zF BK192.out NB192_245.out) k_ hk, Kd.freshB (zF BK193.out NB193_245.out) k_ hk, Kd.freshB (zF BK231.out NB231_245.out) k_ hk, Kd.freshB (zF BK233.out NB233_245.out) k_ hk, Kd.freshB (g := gb245) (o := .cells #[.int .i64 t234, .string t235, .int .i64 t236, .int .i64 t237, .string t238, .slice Ao63 t239.length co63, .slice Ao64 t242.length co64] 25 (0, 0)) (by (with_reducible repeat (first | refine blk_drewN ?_ _ | refine blk_drew ?_ | refine blk_alloc ?_ _)); apply puts_7; (with_reducible repeat (first | refine blk_drewN ?_ _ | refine blk_drew ?_ | refine blk_alloc ?_ _)); exact BK245.out) k_ hk⟩)); (case aO => exact (by (with_reducible repeat (first | apply Kd.N_alloc | apply Kd.N_drewN | apply Kd.N_drew)); exact Kd.N_mono (zgN (Kd.N_mono HO_232006.out (fun k_ hk => (⟨hk, hk.2⟩ : _ ∧ k_ ≠ gb245)))) (fun _ hk => ⟨hk.1.1.1.1, ⟨hk.1.1.1.2.1, ⟨hk.1.1.1.2.2.1, ⟨hk.1.1.1.2.2.2, ⟨hk.1.1.2, hk.1.2⟩⟩⟩⟩⟩))); (case aS => exact (below_size mZ)); (case aL => have := LMc50.out; omega); intro v247 w68 ho hb hg hat; rw [← Ny246.out] at ho; replace BK192 := zM (blk_grown (zF BK192.out NB192_245.out) hg (Kd.N_away HO_232006.out (fun _ hk => hk.1.1.2.1))); replace BK193 := zM (blk_grown (zF BK193.out NB193_245.out) hg (Kd.N_away HO_232006.out (fun _ hk => hk.1.1.2.2.1))); replace BK231 := zM (blk_grown (zF BK231.out NB231_245.out) hg (Kd.N_away HO_232006.out (fun _ hk => hk.1.1.2.2.2))); replace BK233 := zM (blk_grown (zF BK233.out NB233_245.out) hg (Kd.N_away HO_232006.out (fun _ hk => hk.1.2))); replace BK245 := zM (blk_grown (g := gb245) (o := .cells #[.int .i64 t234, .string t235, .int .i64 t236, .int .i64 t237, .string t238, .slice Ao63 t239.length co63, .slice Ao64 t242.length co64] 25 (0, 0)) (by (with_reducible repeat (first | refine blk_drewN ?_ _ | refine blk_drew ?_ | refine blk_alloc ?_ _)); apply puts_7; (with_reducible repeat (first | refine blk_drewN ?_ _ | refine blk_drew ?_ | refine blk_alloc ?_ _)); exact BK245.out) hg (Kd.N_away HO_232006.out (fun _ hk => hk.2))); replace HB := zM (hb); have HO248 := zM (ho); clear HO244 HO_232006; clear ho hb hg hat; obtain ⟨Ao69, co69, eo69⟩ := Kd.N_slice HO248.out; subst eo69; obtain ⟨hcz70_0, hcz70_1, hcz70_2, hcz70_3, hcz70_4, hcz70_5, hcz70_6, hfz70_0, hfz70_1, hfz70_2, hfz70_3, hfz70_4, hfz70_5, hfz70_6⟩ := cells_7 BK231.out))
         go_roundg k2
         case measure => have := HJ2.out; have := HK2.out; omega
         case rel => exact ⟨(wrap64 (x40_2 + 1)), (y246), (.slice Ao69 y246.length co69), ya, H', ⟨by have := HJ2.out; have := HK2.out; omega⟩, ⟨by (with_reducible repeat (first | apply Kd.N_alloc | apply Kd.N_drewN | apply Kd.N_drew)); exact Kd.N_mono (zgN (Kd.N_mono HO248.out (fun k_ hk => (⟨hk, hk.2.2.2.1⟩ : _ ∧ k_ ≠ gb231)))) (fun _ hk => ⟨hk.1.1, ⟨hk.1.2.1, ⟨hk.1.2.2.1, hk.1.2.2.2.1⟩⟩⟩)⟩, ⟨by (with_reducible repeat (first | refine blk_drewN ?_ _ | refine blk_drew ?_ | refine blk_alloc ?_ _)); refine blk_far ?_ NB192_231.out _; (with_reducible repeat (first | refine blk_drewN ?_ _ | refine blk_drew ?_ | refine blk_alloc ?_ _)); exact BK192.out⟩, ⟨by (with_reducible repeat (first | refine blk_drewN ?_ _ | refine blk_drew ?_ | refine blk_alloc ?_ _)); refine blk_far ?_ NB193_231.out _; (with_reducible repeat (first | refine blk_drewN ?_ _ | refine blk_drew ?_ | refine blk_alloc ?_ _)); exact BK193.out⟩, ⟨by (with_reducible repeat (first | refine blk_drewN ?_ _ | refine blk_drew ?_ | refine blk_alloc ?_ _)); refine blk_put (cs := #[.int .i64 x5_2, .string (⟨#[]⟩ : ByteArray), .int .i64 0, .int .i64 0, .string (⟨#[]⟩ : ByteArray), .slice none 0 0, u232006]) ?_ 6 _ rfl; (with_reducible repeat (first | refine blk_drewN ?_ _ | refine blk_drew ?_ | refine blk_alloc ?_ _)); exact BK231.out⟩, ⟨mZ⟩⟩
        rw [if_neg c50] at H
        exact absurd H (by simp)
       rw [if_neg c49] at H
       have c49b0 : (t234 == x5_2) = false := beq_eq_false_iff_ne.mpr c49
       have c49b1 : (t234 != x5_2) = true := bne_iff_ne.mpr c49
       by_cases c71 : x232006_2.length < 1353245080339
       ·rw [if_pos c71] at H
        have LMc71 := zM c71
        clear c71
        obtain ⟨y249, hy249⟩ : ∃ y_ : List (S25), y_ = (x232006_2 ++ [(⟨t234, t235, t236, t237, t238, t239, t242⟩ : S25)]) := ⟨_, rfl⟩
        replace H : (pred_normal.l0 k2 a1 x5_2 l0_6 (l0_6.length : Int) (wrap64 (x40_2 + 1)) x5_2 (⟨#[]⟩ : ByteArray) 0 0 (⟨#[]⟩ : ByteArray) y249) = some (r1, r2, r3, r4, r5, r6, r7) := by first | (rw [hy249]; with_reducible exact H) | (have H2_ := (Option.bind_some _ _).symm.trans H; rw [hy249]; with_reducible exact H2_) | (have H2_ := (Option.bind_some _ _).symm.trans H; with_reducible exact H2_) | with_reducible exact H | (rw [hy249]; exact H) | exact H
        have Ny249 := zM hy249
        clear hy249
        have H' := Aside0.mk H
        clear H
        have p232 : 0 ≤ (x40_2 : Int) := zA
        have q232 : x40_2 < (l0_6.length : Int) := zA
        obtain ⟨ad232, A232_5, c232_5, A232_6, c232_6, e232, hx232_0, hx232_1, hx232_2, hx232_3, hx232_4, hx232_5, hx232_6, hl232_5, hi232_5, hl232_6, hi232_6⟩ := at_T25 HR0_6.out x40_2 p232 q232
        cases e232
        replace hx232_0 := zH HB hx232_0
        replace hx232_1 := zH HB hx232_1
        replace hx232_2 := zH HB hx232_2
        replace hx232_3 := zH HB hx232_3
        replace hx232_4 := zH HB hx232_4
        replace hx232_5 := zH HB hx232_5
        replace hx232_6 := zH HB hx232_6
        have HR232_5 := zM hi232_5
        have HC232_5 := zM hl232_5
        clear hi232_5 hl232_5
        have HR232_6 := zM hi232_6
        have HC232_6 := zM hl232_6
        clear hi232_6 hl232_6
        replace p232 := eq_true p232
        replace q232 := eq_true q232
        go_wp2_with (first | ((with_reducible refine gate_dst (N := 8) rfl ?_); refine box_event ?hg (N := 8) ?hd (cs := #[.int .i64 0, .string (⟨#[]⟩ : ByteArray), .int .i64 0, .int .i64 0, .string (⟨#[]⟩ : ByteArray), .slice none 0 0, .slice none 0 0]) (t := 25) ?hr ?_; (case hd => rfl); (case hg => rfl); (case hr => first | (go_simp; done) | (go_simp; rfl)); intro gb233 hg w72 hbox hb; replace HO_232006 := zM (Kd.N_below (Kd.N_elderB (mN HO_232006.out) gb233 (Nat.le_of_eq hg.symm)) hb); have BK233 := zM (hbox); have GW233 := zM ((by rw [hg]; exact (below_size mZ) : w.heap.size ≤ gb233)); replace HB := zM (below_step mZ hb); have GE233 := GW233; have NB192_233 := zL BK192 hg; have NB233_192 := zG BK192 hg; replace BK192 := zK BK192 hb; have NB193_233 := zL BK193 hg; have NB233_193 := zG BK193 hg; replace BK193 := zK BK193 hb; have NB231_233 := zL BK231 hg; have NB233_231 := zG BK231 hg; replace BK231 := zK BK231 hb; clear hb hbox hg; have hnb73 := NB233_192.out; have hnc73 := NB192_233.out; have hnb74 := NB233_193.out; have hnc74 := NB193_233.out; have hnb75 := NB233_231.out; have hnc75 := NB231_233.out; obtain ⟨hcz76_0, hcz76_1, hcz76_2, hcz76_3, hcz76_4, hcz76_5, hcz76_6, hfz76_0, hfz76_1, hfz76_2, hfz76_3, hfz76_4, hfz76_5, hfz76_6⟩ := cells_7 BK233.out) | ((with_reducible refine gate_callee (f := 28) rfl ?_); refine goesL_ (some 46) rfl rfl Try.func28 (by kernel_rfl) rfl #[.agg #[.int .i64 ((rd_T25 l0_6 x40_2).f0), .string ((rd_T25 l0_6 x40_2).f1), .int .i64 ((rd_T25 l0_6 x40_2).f2), .int .i64 ((rd_T25 l0_6 x40_2).f3), .string ((rd_T25 l0_6 x40_2).f4), .slice A232_5 ((rd_T25 l0_6 x40_2).f5).length c232_5, .slice A232_6 ((rd_T25 l0_6 x40_2).f6).length c232_6], .bool a1] rfl yb ?_; (with_reducible refine (ih k2 (by have := HJ2.out; have := HK2.out; omega) ((rd_T25 l0_6 x40_2).f0) ((rd_T25 l0_6 x40_2).f1) ((rd_T25 l0_6 x40_2).f2) ((rd_T25 l0_6 x40_2).f3) ((rd_T25 l0_6 x40_2).f4) _ _ ((rd_T25 l0_6 x40_2).f5) _ _ ((rd_T25 l0_6 x40_2).f6) a1 t234 t235 t236 t237 t238 t239 t242 _ ?side1 ?side2 ?side3 ?side4 A48.out).mono ?_); (case side1 => exact Kd.C_below HR232_5.out mZ); (case side2 => first | exact HC232_5.out | exact Kd.V_mono HC232_5.out (fun k_ hk_ => by grind)); (case side3 => exact Kd.C_below HR232_6.out mZ); (case side4 => first | exact HC232_6.out | exact Kd.V_mono HC232_6.out (fun k_ hk_ => by grind)); rintro e w77 ⟨v240, v243, rfl, ho0, ho1, hb⟩; refine ⟨_, rfl, ?_⟩; have HO241 := zM (Kd.V_lower (Kd.V_mono (ok' := fun k_ => (w.heap.size ≤ k_) ∧ some k_ ≠ (u232006 : Value).ownBlock ∧ k_ ≠ gb192 ∧ k_ ≠ gb193 ∧ k_ ≠ gb231 ∧ k_ ≠ gb233) ho0 (fun k_ hk_ => ⟨(Nat.le_trans (below_size mZ) hk_), (Kd.fresh' (Kd.N_lt (by (with_reducible repeat (first | apply Kd.N_alloc | apply Kd.N_drewN | apply Kd.N_drew)); exact (Kd.N_mono (zgN (Kd.N_mono HO_232006.out (fun k_ hk => (⟨hk, hk.2⟩ : _ ∧ k_ ≠ gb233)))) (fun _ h_ => h_.1)))) k_ hk_), (Kd.freshB (zF BK192.out NB192_233.out) k_ hk_), (Kd.freshB (zF BK193.out NB193_233.out) k_ hk_), (Kd.freshB (zF BK231.out NB231_233.out) k_ hk_), (Kd.freshB (g := gb233) (o := .cells #[.int .i64 ((rd_T25 l0_6 x40_2).f0), .string ((rd_T25 l0_6 x40_2).f1), .int .i64 ((rd_T25 l0_6 x40_2).f2), .int .i64 ((rd_T25 l0_6 x40_2).f3), .string ((rd_T25 l0_6 x40_2).f4), .slice A232_5 ((rd_T25 l0_6 x40_2).f5).length c232_5, .slice A232_6 ((rd_T25 l0_6 x40_2).f6).length c232_6] 25 (0, 0)) (by (with_reducible repeat (first | refine blk_drewN ?_ _ | refine blk_drew ?_ | refine blk_alloc ?_ _)); apply puts_7; (with_reducible repeat (first | refine blk_drewN ?_ _ | refine blk_drew ?_ | refine blk_alloc ?_ _)); exact BK233.out) k_ hk_)⟩)) (below_size mZ)); have HO244 := zM (Kd.V_lower (Kd.V_mono (ok' := fun k_ => (w.heap.size ≤ k_) ∧ some k_ ≠ (u232006 : Value).ownBlock ∧ k_ ≠ gb192 ∧ k_ ≠ gb193 ∧ k_ ≠ gb231 ∧ k_ ≠ gb233) ho1 (fun k_ hk_ => ⟨(Nat.le_trans (below_size mZ) hk_), (Kd.fresh' (Kd.N_lt (by (with_reducible repeat (first | apply Kd.N_alloc | apply Kd.N_drewN | apply Kd.N_drew)); exact (Kd.N_mono (zgN (Kd.N_mono HO_232006.out (fun k_ hk => (⟨hk, hk.2⟩ : _ ∧ k_ ≠ gb233)))) (fun _ h_ => h_.1)))) k_ hk_), (Kd.freshB (zF BK192.out NB192_233.out) k_ hk_), (Kd.freshB (zF BK193.out NB193_233.out) k_ hk_), (Kd.freshB (zF BK231.out NB231_233.out) k_ hk_), (Kd.freshB (g := gb233) (o := .cells #[.int .i64 ((rd_T25 l0_6 x40_2).f0), .string ((rd_T25 l0_6 x40_2).f1), .int .i64 ((rd_T25 l0_6 x40_2).f2), .int .i64 ((rd_T25 l0_6 x40_2).f3), .string ((rd_T25 l0_6 x40_2).f4), .slice A232_5 ((rd_T25 l0_6 x40_2).f5).length c232_5, .slice A232_6 ((rd_T25 l0_6 x40_2).f6).length c232_6] 25 (0, 0)) (by (with_reducible repeat (first | refine blk_drewN ?_ _ | refine blk_drew ?_ | refine blk_alloc ?_ _)); apply puts_7; (with_reducible repeat (first | refine blk_drewN ?_ _ | refine blk_drew ?_ | refine blk_alloc ?_ _)); exact BK233.out) k_ hk_)⟩)) (below_size mZ)); replace HO_232006 := zM (Kd.N_below (by (with_reducible repeat (first | apply Kd.N_alloc | apply Kd.N_drewN | apply Kd.N_drew)); exact (Kd.N_mono (zgN (Kd.N_mono HO_232006.out (fun k_ hk => (⟨hk, hk.2⟩ : _ ∧ k_ ≠ gb233)))) (fun _ h_ => h_.1))) hb); replace BK192 := zM (blk_below (zF BK192.out NB192_233.out) hb); replace BK193 := zM (blk_below (zF BK193.out NB193_233.out) hb); replace BK231 := zM (blk_below (zF BK231.out NB231_233.out) hb); replace BK233 := zP7 BK233 hb; replace HB := zM (below_step mZ hb); (try clear hb); (try clear ho0); (try clear ho1)) | ((with_reducible refine gate_dst (N := 9) rfl ?_); refine box_event ?hg (N := 9) ?hd (cs := #[.int .i64 0, .string (⟨#[]⟩ : ByteArray), .int .i64 0, .int .i64 0, .string (⟨#[]⟩ : ByteArray), .slice none 0 0, .slice none 0 0]) (t := 25) ?hr ?_; (case hd => rfl); (case hg => rfl); (case hr => first | (go_simp; done) | (go_simp; rfl)); intro gb245 hg w78 hbox hb; replace HO_232006 := zM (Kd.N_below (Kd.N_elderB (mN HO_232006.out) gb245 (Nat.le_of_eq hg.symm)) hb); replace HO241 := zM (Kd.V_below (Kd.V_elderB (mV HO241.out) gb245 (Nat.le_of_eq hg.symm)) hb); replace HO244 := zM (Kd.V_below (Kd.V_elderB (mV HO244.out) gb245 (Nat.le_of_eq hg.symm)) hb); have BK245 := zM (hbox); have GW245 := zM ((by rw [hg]; exact (below_size mZ) : w.heap.size ≤ gb245)); replace HB := zM (below_step mZ hb); have GE245 := GW245; have NB192_245 := zL BK192 hg; have NB245_192 := zG BK192 hg; replace BK192 := zK BK192 hb; have NB193_245 := zL BK193 hg; have NB245_193 := zG BK193 hg; replace BK193 := zK BK193 hb; have NB231_245 := zL BK231 hg; have NB245_231 := zG BK231 hg; replace BK231 := zK BK231 hb; have NB233_245 := zL BK233 hg; have NB245_233 := zG BK233 hg; replace BK233 := zK BK233 hb; clear hb hbox hg; have hnb79 := NB245_192.out; have hnc79 := NB192_245.out; have hnb80 := NB245_193.out; have hnc80 := NB193_245.out; have hnb81 := NB245_231.out; have hnc81 := NB231_245.out; have hnb82 := NB245_233.out; have hnc82 := NB233_245.out; obtain ⟨hcz83_0, hcz83_1, hcz83_2, hcz83_3, hcz83_4, hcz83_5, hcz83_6, hfz83_0, hfz83_1, hfz83_2, hfz83_3, hfz83_4, hfz83_5, hfz83_6⟩ := cells_7 BK245.out; obtain ⟨Ao84, co84, eo84⟩ := Kd.V_slice HO241.out; subst eo84; obtain ⟨Ao85, co85, eo85⟩ := Kd.V_slice HO244.out; subst eo85) | ((with_reducible refine gate_store (t := 25) (p := 9) rfl ?_); refine store_event (t := 25) (p := 9) (v := ?vo_w86) (w1 := (((((((w78.setCell ⟨gb245, 0, none⟩ (.int .i64 t234)).setCell ⟨gb245, 1, none⟩ (.string t235)).setCell ⟨gb245, 2, none⟩ (.int .i64 t236)).setCell ⟨gb245, 3, none⟩ (.int .i64 t237)).setCell ⟨gb245, 4, none⟩ (.string t238)).setCell ⟨gb245, 5, none⟩ (.slice Ao84 t239.length co84)).setCell ⟨gb245, 6, none⟩ (.slice Ao85 t242.length co85))) ?hg ?ho ?hn ?hr ?_; (case ho => rfl); (case hg => rfl); (case hn => rfl); (case hr => first | (go_simp; done) | (go_simp; rfl)); intro w86 hw; have n0_ : Aside0 (Kd.N k25 25 w86 w.heap.size (fun k_ => (w.heap.size ≤ k_) ∧ k_ ≠ gb192 ∧ k_ ≠ gb193 ∧ k_ ≠ gb231 ∧ k_ ≠ gb233 ∧ k_ ≠ gb245) u232006 x232006_2) := ⟨(by rw [hw]; exact (by (with_reducible repeat (first | apply Kd.N_alloc | apply Kd.N_drewN | apply Kd.N_drew)); exact Kd.N_mono (zgN (Kd.N_mono HO_232006.out (fun k_ hk => (⟨hk, hk.2⟩ : _ ∧ k_ ≠ gb245)))) (fun _ hk => ⟨hk.1.1.1.1, ⟨hk.1.1.1.2.1, ⟨hk.1.1.1.2.2.1, ⟨hk.1.1.1.2.2.2, ⟨hk.1.1.2, hk.1.2⟩⟩⟩⟩⟩)))⟩; have n1_ : Aside0 (Kd.V Kd.string 9 w86 w.heap.size (fun k_ => (w.heap.size ≤ k_) ∧ some k_ ≠ (u232006 : Value).ownBlock ∧ k_ ≠ gb192 ∧ k_ ≠ gb193 ∧ k_ ≠ gb231 ∧ k_ ≠ gb233 ∧ k_ ≠ gb245) (.slice Ao84 t239.length co84) t239) := ⟨(by rw [hw]; exact (by (with_reducible repeat (first | apply Kd.V_alloc | apply Kd.V_drewN | apply Kd.V_drew)); exact Kd.V_mono (zgV (Kd.V_mono HO241.out (fun k_ hk => (⟨hk, hk.2⟩ : _ ∧ k_ ≠ gb245)))) (fun _ hk => ⟨hk.1.1.1, ⟨hk.1.1.2.1, ⟨hk.1.1.2.2.1, ⟨hk.1.1.2.2.2.1, ⟨hk.1.1.2.2.2.2.1, ⟨hk.1.1.2.2.2.2.2, hk.1.2⟩⟩⟩⟩⟩⟩)))⟩; have n2_ : Aside0 (Kd.V k25 25 w86 w.heap.size (fun k_ => (w.heap.size ≤ k_) ∧ some k_ ≠ (u232006 : Value).ownBlock ∧ k_ ≠ gb192 ∧ k_ ≠ gb193 ∧ k_ ≠ gb231 ∧ k_ ≠ gb233 ∧ k_ ≠ gb245) (.slice Ao85 t242.length co85) t242) := ⟨(by rw [hw]; exact (by (with_reducible repeat (first | apply Kd.V_alloc | apply Kd.V_drewN | apply Kd.V_drew)); exact Kd.V_mono (zgV (Kd.V_mono HO244.out (fun k_ hk => (⟨hk, hk.2⟩ : _ ∧ k_ ≠ gb245)))) (fun _ hk => ⟨hk.1.1.1, ⟨hk.1.1.2.1, ⟨hk.1.1.2.2.1, ⟨hk.1.1.2.2.2.1, ⟨hk.1.1.2.2.2.2.1, ⟨hk.1.1.2.2.2.2.2, hk.1.2⟩⟩⟩⟩⟩⟩)))⟩; have n3_ : Aside0 (w86.heap[gb192]? = some (.cells #[.int .i64 a0_0, .string a0_1, .int .i64 a0_2, .int .i64 a0_3, .string a0_4, .slice A0_5 l0_5.length c0_5, .slice (some ad232) l0_6.length c0_6] 25 (0, 0))) := ⟨(by rw [hw]; exact (zF BK192.out NB192_245.out))⟩; have n4_ : Aside0 (w86.heap[gb193]? = some (.cells #[.int .i64 x194000_2, .string x194001_2, .int .i64 x194002_2, .int .i64 x194003_2, .string x194004_2, .slice none 0 0, .slice none 0 0] 25 (0, 0))) := ⟨(by rw [hw]; exact (zF BK193.out NB193_245.out))⟩; have n5_ : Aside0 (w86.heap[gb231]? = some (.cells #[.int .i64 x5_2, .string (⟨#[]⟩ : ByteArray), .int .i64 0, .int .i64 0, .string (⟨#[]⟩ : ByteArray), .slice none 0 0, u232006] 25 (0, 0))) := ⟨(by rw [hw]; exact (zF BK231.out NB231_245.out))⟩; have n6_ : Aside0 (w86.heap[gb233]? = some (.cells #[.int .i64 ((rd_T25 l0_6 x40_2).f0), .string ((rd_T25 l0_6 x40_2).f1), .int .i64 ((rd_T25 l0_6 x40_2).f2), .int .i64 ((rd_T25 l0_6 x40_2).f3), .string ((rd_T25 l0_6 x40_2).f4), .slice A232_5 ((rd_T25 l0_6 x40_2).f5).length c232_5, .slice A232_6 ((rd_T25 l0_6 x40_2).f6).length c232_6] 25 (0, 0))) := ⟨(by rw [hw]; exact (zF BK233.out NB233_245.out))⟩; have n7_ : Aside0 (w86.heap[gb245]? = some (.cells #[.int .i64 t234, .string t235, .int .i64 t236, .int .i64 t237, .string t238, .slice Ao84 t239.length co84, .slice Ao85 t242.length co85] 25 (0, 0))) := ⟨(by rw [hw]; exact (by (with_reducible repeat (first | refine blk_drewN ?_ _ | refine blk_drew ?_ | refine blk_alloc ?_ _)); apply puts_7; (with_reducible repeat (first | refine blk_drewN ?_ _ | refine blk_drew ?_ | refine blk_alloc ?_ _)); exact BK245.out))⟩; have n8_ : Aside0 (Below w.heap.size w w86) := ⟨(by rw [hw]; exact mZ)⟩; clear hw; clear HO_232006; clear HO241; clear HO244; clear BK192; clear BK193; clear BK231; clear BK233; clear BK245; clear HB; have HO_232006 := n0_; have HO241 := n1_; have HO244 := n2_; have BK192 := n3_; have BK193 := n4_; have BK231 := n5_; have BK233 := n6_; have BK245 := n7_; have HB := n8_; clear n0_ n1_ n2_ n3_ n4_ n5_ n6_ n7_ n8_; obtain ⟨hcz87_0, hcz87_1, hcz87_2, hcz87_3, hcz87_4, hcz87_5, hcz87_6, hfz87_0, hfz87_1, hfz87_2, hfz87_3, hfz87_4, hfz87_5, hfz87_6⟩ := cells_7 BK245.out; have hnb88 := NB231_192.out; have hnc88 := NB192_231.out; have hnb89 := NB231_193.out; have hnc89 := NB193_231.out; obtain ⟨hcz90_0, hcz90_1, hcz90_2, hcz90_3, hcz90_4, hcz90_5, hcz90_6, hfz90_0, hfz90_1, hfz90_2, hfz90_3, hfz90_4, hfz90_5, hfz90_6⟩ := cells_7 BK231.out) | ((with_reducible refine gate_builtin (b := .append) (xs := #[.tmp 58, .tmp 60]) rfl ?_); at_builtin; refine Kd.N_append k25 (w0 := w) w.heap.size rfl (.tmp 58) (.tmp 60) 23 25 (.agg #[(.int .i64 0), (.string ⟨#[]⟩), (.int .i64 0), (.int .i64 0), (.string ⟨#[]⟩), (.slice none 0 0), (.slice none 0 0)]) 104 rfl Try.underlying23 info25 rfl (by decide) (by omega) u232006 x232006_2 (⟨t234, t235, t236, t237, t238, t239, t242⟩ : S25) [.int .i64 t234, .string t235, .int .i64 t236, .int .i64 t237, .string t238, .slice Ao84 t239.length co84, .slice Ao85 t242.length co85] (fun k_ => (w.heap.size ≤ k_) ∧ k_ ≠ gb192 ∧ k_ ≠ gb193 ∧ k_ ≠ gb231 ∧ k_ ≠ gb233 ∧ k_ ≠ gb245) (fun k_ => ((fun k_ => (w.heap.size ≤ k_) ∧ k_ ≠ gb192 ∧ k_ ≠ gb193 ∧ k_ ≠ gb231 ∧ k_ ≠ gb233 ∧ k_ ≠ gb245)) k_ ∧ some k_ ≠ (u232006 : Value).ownBlock) rfl rfl ?aP (fun _ hk => hk) ?aF ?aO ?aB ?aS ?aL ?_; (case aP => exact (k25_mkF _ _ (⟨t234, t235, t236, t237, t238, t239, t242⟩ : S25) (Kd.V_reads' (Kd.V_mono (ok' := (fun k_ => ((fun k_ => (w.heap.size ≤ k_) ∧ k_ ≠ gb192 ∧ k_ ≠ gb193 ∧ k_ ≠ gb231 ∧ k_ ≠ gb233 ∧ k_ ≠ gb245)) k_ ∧ some k_ ≠ (u232006 : Value).ownBlock)) (HO241.out) (fun k_ hk => ⟨⟨hk.1, ⟨hk.2.2.1, ⟨hk.2.2.2.1, ⟨hk.2.2.2.2.1, ⟨hk.2.2.2.2.2.1, hk.2.2.2.2.2.2⟩⟩⟩⟩⟩, hk.2.1⟩))).2.1 (Kd.V_F (by (with_reducible repeat (first | apply Kd.V_alloc | apply Kd.V_drewN | apply Kd.V_drew)); exact (Kd.V_mono (ok' := (fun k_ => ((fun k_ => (w.heap.size ≤ k_) ∧ k_ ≠ gb192 ∧ k_ ≠ gb193 ∧ k_ ≠ gb231 ∧ k_ ≠ gb233 ∧ k_ ≠ gb245)) k_ ∧ some k_ ≠ (u232006 : Value).ownBlock)) (HO241.out) (fun k_ hk => ⟨⟨hk.1, ⟨hk.2.2.1, ⟨hk.2.2.2.1, ⟨hk.2.2.2.2.1, ⟨hk.2.2.2.2.2.1, hk.2.2.2.2.2.2⟩⟩⟩⟩⟩, hk.2.1⟩)))) (Kd.V_reads' (Kd.V_mono (ok' := (fun k_ => ((fun k_ => (w.heap.size ≤ k_) ∧ k_ ≠ gb192 ∧ k_ ≠ gb193 ∧ k_ ≠ gb231 ∧ k_ ≠ gb233 ∧ k_ ≠ gb245)) k_ ∧ some k_ ≠ (u232006 : Value).ownBlock)) (HO244.out) (fun k_ hk => ⟨⟨hk.1, ⟨hk.2.2.1, ⟨hk.2.2.2.1, ⟨hk.2.2.2.2.1, ⟨hk.2.2.2.2.2.1, hk.2.2.2.2.2.2⟩⟩⟩⟩⟩, hk.2.1⟩))).2.1 (Kd.V_F (by (with_reducible repeat (first | apply Kd.V_alloc | apply Kd.V_drewN | apply Kd.V_drew)); exact (Kd.V_mono (ok' := (fun k_ => ((fun k_ => (w.heap.size ≤ k_) ∧ k_ ≠ gb192 ∧ k_ ≠ gb193 ∧ k_ ≠ gb231 ∧ k_ ≠ gb233 ∧ k_ ≠ gb245)) k_ ∧ some k_ ≠ (u232006 : Value).ownBlock)) (HO244.out) (fun k_ hk => ⟨⟨hk.1, ⟨hk.2.2.1, ⟨hk.2.2.2.1, ⟨hk.2.2.2.2.1, ⟨hk.2.2.2.2.2.1, hk.2.2.2.2.2.2⟩⟩⟩⟩⟩, hk.2.1⟩)))))); (case aB => exact mZ); (case aF => exact (fun k_ hk => ⟨(Nat.le_trans (below_size mZ) hk), fK BK192 hk, fK BK193 hk, fK BK231 hk, fK BK233 hk, fK BK245 hk⟩)); (case aO => exact (mN HO_232006.out)); (case aS => exact (below_size mZ)); (case aL => have := LMc71.out; omega); intro v250 w91 ho hb hg hat; rw [← Ny249.out] at ho; replace BK192 := zM (blk_grown (mK BK192.out) hg (Kd.N_away HO_232006.out (fun _ hk => hk.2.1))); replace BK193 := zM (blk_grown (mK BK193.out) hg (Kd.N_away HO_232006.out (fun _ hk => hk.2.2.1))); replace BK231 := zM (blk_grown (mK BK231.out) hg (Kd.N_away HO_232006.out (fun _ hk => hk.2.2.2.1))); replace BK233 := zM (blk_grown (mK BK233.out) hg (Kd.N_away HO_232006.out (fun _ hk => hk.2.2.2.2.1))); replace BK245 := zM (blk_grown (mK BK245.out) hg (Kd.N_away HO_232006.out (fun _ hk => hk.2.2.2.2.2))); replace HB := zM (hb); have HO251 := zM (ho); clear HO241 HO244 HO_232006; clear ho hb hg hat; obtain ⟨Ao92, co92, eo92⟩ := Kd.N_slice HO251.out; subst eo92; obtain ⟨hcz93_0, hcz93_1, hcz93_2, hcz93_3, hcz93_4, hcz93_5, hcz93_6, hfz93_0, hfz93_1, hfz93_2, hfz93_3, hfz93_4, hfz93_5, hfz93_6⟩ := cells_7 BK231.out))
        go_roundg k2
        case measure => have := HJ2.out; have := HK2.out; omega
        case rel => exact ⟨(wrap64 (x40_2 + 1)), (y249), (.slice Ao92 y249.length co92), ya, H', ⟨by have := HJ2.out; have := HK2.out; omega⟩, ⟨by (with_reducible repeat (first | apply Kd.N_alloc | apply Kd.N_drewN | apply Kd.N_drew)); exact Kd.N_mono (zgN (Kd.N_mono HO251.out (fun k_ hk => (⟨hk, hk.2.2.2.1⟩ : _ ∧ k_ ≠ gb231)))) (fun _ hk => ⟨hk.1.1, ⟨hk.1.2.1, ⟨hk.1.2.2.1, hk.1.2.2.2.1⟩⟩⟩)⟩, ⟨by (with_reducible repeat (first | refine blk_drewN ?_ _ | refine blk_drew ?_ | refine blk_alloc ?_ _)); refine blk_far ?_ NB192_231.out _; (with_reducible repeat (first | refine blk_drewN ?_ _ | refine blk_drew ?_ | refine blk_alloc ?_ _)); exact BK192.out⟩, ⟨by (with_reducible repeat (first | refine blk_drewN ?_ _ | refine blk_drew ?_ | refine blk_alloc ?_ _)); refine blk_far ?_ NB193_231.out _; (with_reducible repeat (first | refine blk_drewN ?_ _ | refine blk_drew ?_ | refine blk_alloc ?_ _)); exact BK193.out⟩, ⟨by (with_reducible repeat (first | refine blk_drewN ?_ _ | refine blk_drew ?_ | refine blk_alloc ?_ _)); refine blk_put (cs := #[.int .i64 x5_2, .string (⟨#[]⟩ : ByteArray), .int .i64 0, .int .i64 0, .string (⟨#[]⟩ : ByteArray), .slice none 0 0, u232006]) ?_ 6 _ rfl; (with_reducible repeat (first | refine blk_drewN ?_ _ | refine blk_drew ?_ | refine blk_alloc ?_ _)); exact BK231.out⟩, ⟨mZ⟩⟩
       rw [if_neg c71] at H
       exact absurd H (by simp)
      rw [if_neg c47] at H
      exact absurd H (by simp)
     rw [if_neg c46] at H
     exact absurd H (by simp)
    rw [if_neg c45] at H
    have c45b0 : decide (x40_2 < (l0_6.length : Int)) = false := decide_eq_false c45
    clear c45
    by_cases c94 : (x232006_2.length : Int) = 1
    ·rw [if_pos c94] at H
     have c94b0 : ((x232006_2.length : Int) == 1) = true := beq_iff_eq.mpr c94
     have c94b1 : ((x232006_2.length : Int) != 1) = false := bne_eq_false_iff_eq.mpr c94
     clear c94
     by_cases c95 : 0 < (x232006_2.length : Int)
     ·rw [if_pos c95] at H
      have c95b0 : decide (0 < (x232006_2.length : Int)) = true := decide_eq_true c95
      have c95b1 : decide (0 < x232006_2.length) = true := decide_eq_true (by omega)
      clear c95
      simp only [Option.some.injEq, Prod.mk.injEq] at H
      obtain ⟨rfl, rfl, rfl, rfl, rfl, rfl, rfl⟩ := H
      have hnb96 := NB231_192.out
      have hnc96 := NB192_231.out
      have hnb97 := NB231_193.out
      have hnc97 := NB193_231.out
      obtain ⟨hcz98_0, hcz98_1, hcz98_2, hcz98_3, hcz98_4, hcz98_5, hcz98_6, hfz98_0, hfz98_1, hfz98_2, hfz98_3, hfz98_4, hfz98_5, hfz98_6⟩ := cells_7 BK231.out
      obtain ⟨Ao99, co99, eo99⟩ := Kd.N_slice HO_232006.out
      subst eo99
      have p252 : 0 ≤ (0 : Int) := (by omega)
      have q252 : 0 < (x232006_2.length : Int) := zA
      obtain ⟨ad252, A252_5, c252_5, A252_6, c252_6, e252, hx252_0, hx252_1, hx252_2, hx252_3, hx252_4, hx252_5, hx252_6, hl252_5, hi252_5, hl252_6, hi252_6⟩ := at_T25 (Kd.N_reads' HO_232006.out).2.2 0 p252 q252
      cases e252
      obtain ⟨ce252, hce252, hMe252, hcc252⟩ := Kd.N_get HO_232006.out z25 0 p252 (by first | exact q252 | exact zA | (have e_ := (Kd.N_reads' HO_232006.out).1; omega))
      obtain ⟨ua252_5, uc252_5, ua252_6, uc252_6, rfl, ul252_5, ge252_5, ul252_6, ge252_6⟩ := k25_openF hMe252
      have hv252_5 := hcc252 5 _ rfl
      rw [add_field _ _ 5 (by omega)] at hv252_5
      replace hv252_5 := Option.some.inj (hv252_5.symm.trans hx252_5)
      injection hv252_5 with hva_ hvn_ hvc_
      rw [hva_] at ge252_5
      rw [hvc_] at ul252_5
      have HL252_5 := zM (show Kd.V Kd.string 9 _ w.heap.size _ _ ((rd_T25 x232006_2 0).f5) from Kd.V_mk ul252_5 ge252_5)
      clear hva_ hvn_ hvc_ ge252_5 ul252_5
      have hv252_6 := hcc252 6 _ rfl
      rw [add_field _ _ 6 (by omega)] at hv252_6
      replace hv252_6 := Option.some.inj (hv252_6.symm.trans hx252_6)
      injection hv252_6 with hva_ hvn_ hvc_
      rw [hva_] at ge252_6
      rw [hvc_] at ul252_6
      have HL252_6 := zM (show Kd.V k25 25 _ w.heap.size _ _ ((rd_T25 x232006_2 0).f6) from Kd.V_mk ul252_6 ge252_6)
      clear hva_ hvn_ hvc_ ge252_6 ul252_6
      clear hcc252 hce252
      have qi252 : (0 < x232006_2.length) = True := eq_true (by omega)
      (try rw [show ((0 : Int)).toNat = 0 from rfl] at hx252_0)
      (try rw [show 0 * 7 = 0 from rfl] at hx252_0)
      (try rw [Addr.add_zero'] at hx252_0)
      (try rw [show ((0 : Int)).toNat = 0 from rfl] at hx252_1)
      (try rw [show 0 * 7 = 0 from rfl] at hx252_1)
      (try rw [Addr.add_zero'] at hx252_1)
      (try rw [show ((0 : Int)).toNat = 0 from rfl] at hx252_2)
      (try rw [show 0 * 7 = 0 from rfl] at hx252_2)
      (try rw [Addr.add_zero'] at hx252_2)
      (try rw [show ((0 : Int)).toNat = 0 from rfl] at hx252_3)
      (try rw [show 0 * 7 = 0 from rfl] at hx252_3)
      (try rw [Addr.add_zero'] at hx252_3)
      (try rw [show ((0 : Int)).toNat = 0 from rfl] at hx252_4)
      (try rw [show 0 * 7 = 0 from rfl] at hx252_4)
      (try rw [Addr.add_zero'] at hx252_4)
      (try rw [show ((0 : Int)).toNat = 0 from rfl] at hx252_5)
      (try rw [show 0 * 7 = 0 from rfl] at hx252_5)
      (try rw [Addr.add_zero'] at hx252_5)
      (try rw [show ((0 : Int)).toNat = 0 from rfl] at hx252_6)
      (try rw [show 0 * 7 = 0 from rfl] at hx252_6)
      (try rw [Addr.add_zero'] at hx252_6)
      have HR252_5 := zM hi252_5
      have HC252_5 := zM hl252_5
      clear hi252_5 hl252_5
      have HR252_6 := zM hi252_6
      have HC252_6 := zM hl252_6
      clear hi252_6 hl252_6
      replace p252 := eq_true p252
      replace q252 := eq_true q252
      have hnb100 := NB193_192.out
      have hnc100 := NB192_193.out
      obtain ⟨hcz101_0, hcz101_1, hcz101_2, hcz101_3, hcz101_4, hcz101_5, hcz101_6, hfz101_0, hfz101_1, hfz101_2, hfz101_3, hfz101_4, hfz101_5, hfz101_6⟩ := cells_7 BK193.out
      go_wp2
      refine bodyPost_ret (results_cell_row rfl _ _ gb193 25 #[.int .i64 ((rd_T25 x232006_2 0).f0), .string ((rd_T25 x232006_2 0).f1), .int .i64 ((rd_T25 x232006_2 0).f2), .int .i64 ((rd_T25 x232006_2 0).f3), .string ((rd_T25 x232006_2 0).f4), .slice A252_5 ((rd_T25 x232006_2 0).f5).length c252_5, .slice A252_6 ((rd_T25 x232006_2 0).f6).length c252_6] (0, 0) _ rfl (by (with_reducible repeat (first | refine blk_drewN ?_ _ | refine blk_drew ?_ | refine blk_alloc ?_ _)); apply puts_7; (with_reducible repeat (first | refine blk_drewN ?_ _ | refine blk_drew ?_ | refine blk_alloc ?_ _)); exact BK193.out) Try.underlying25 rfl (by kernel_rfl)) rfl ?_
      exact ⟨_, _, by first | rfl | (simp [errW_none, errW_some] <;> rfl) | (simp [*, errW_none, errW_some] <;> rfl), by (with_reducible repeat (first | apply Kd.V_alloc | apply Kd.V_drewN | apply Kd.V_drew)); exact Kd.V_mono (zgV (Kd.V_mono HL252_5.out (fun k_ hk => (⟨hk, hk.1.2.2.1⟩ : _ ∧ k_ ≠ gb193)))) (fun _ hk => hk.1.1.1), by (with_reducible repeat (first | apply Kd.V_alloc | apply Kd.V_drewN | apply Kd.V_drew)); exact Kd.V_mono (zgV (Kd.V_mono HL252_6.out (fun k_ hk => (⟨hk, hk.1.2.2.1⟩ : _ ∧ k_ ≠ gb193)))) (fun _ hk => hk.1.1.1), mZ⟩
     rw [if_neg c95] at H
     exact absurd H (by simp)
    rw [if_neg c94] at H
    have c94b0 : ((x232006_2.length : Int) == 1) = false := beq_eq_false_iff_ne.mpr c94
    have c94b1 : ((x232006_2.length : Int) != 1) = true := bne_iff_ne.mpr c94
    simp only [Option.some.injEq, Prod.mk.injEq] at H
    obtain ⟨rfl, rfl, rfl, rfl, rfl, rfl, rfl⟩ := H
    have hnb102 := NB231_192.out
    have hnc102 := NB192_231.out
    have hnb103 := NB231_193.out
    have hnc103 := NB193_231.out
    obtain ⟨hcz104_0, hcz104_1, hcz104_2, hcz104_3, hcz104_4, hcz104_5, hcz104_6, hfz104_0, hfz104_1, hfz104_2, hfz104_3, hfz104_4, hfz104_5, hfz104_6⟩ := cells_7 BK231.out
    obtain ⟨Ao105, co105, eo105⟩ := Kd.N_slice HO_232006.out
    subst eo105
    have hnb106 := NB193_192.out
    have hnc106 := NB192_193.out
    obtain ⟨hcz107_0, hcz107_1, hcz107_2, hcz107_3, hcz107_4, hcz107_5, hcz107_6, hfz107_0, hfz107_1, hfz107_2, hfz107_3, hfz107_4, hfz107_5, hfz107_6⟩ := cells_7 BK193.out
    go_wp2
    refine bodyPost_ret (results_cell_row rfl _ _ gb193 25 #[.int .i64 x5_2, .string (⟨#[]⟩ : ByteArray), .int .i64 0, .int .i64 0, .string (⟨#[]⟩ : ByteArray), .slice none 0 0, .slice Ao105 x232006_2.length co105] (0, 0) _ rfl (by (with_reducible repeat (first | refine blk_drewN ?_ _ | refine blk_drew ?_ | refine blk_alloc ?_ _)); apply puts_7; (with_reducible repeat (first | refine blk_drewN ?_ _ | refine blk_drew ?_ | refine blk_alloc ?_ _)); exact BK193.out) Try.underlying25 rfl (by kernel_rfl)) rfl ?_
    exact ⟨_, _, by first | rfl | (simp [errW_none, errW_some] <;> rfl) | (simp [*, errW_none, errW_some] <;> rfl), by first | exact Kd.V_nil _ _ _ _ _ | (exact (by first | exact Kd.R_nil _ _ _ _ _ | exact Kd.N_nil _ _ _ _ _ | exact Kd.V_nil _ _ _ _ _ | exact Kd.Q_nil _ _ _ _ _ | exact Kd.S_nil _ _ _ _ _)), Kd.N_V (by (with_reducible repeat (first | apply Kd.N_alloc | apply Kd.N_drewN | apply Kd.N_drew)); exact Kd.N_mono (zgN (Kd.N_mono HO_232006.out (fun k_ hk => (⟨hk, hk.2.2.1⟩ : _ ∧ k_ ≠ gb193)))) (fun _ hk => hk.1.1)), mZ⟩

end Go.Proofs.Ytalpcnomfebdiaa.QPredRules
