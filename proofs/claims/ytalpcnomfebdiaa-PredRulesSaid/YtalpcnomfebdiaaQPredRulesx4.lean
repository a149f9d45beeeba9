-- Written by a program of this session (wip/myprint.py): the machine's side of a law
import Derived.Test.YtalpcnomfebdiaaQPredRulesx0
import Derived.Test.YtalpcnomfebdiaaQPredRulesx2
import Derived.Test.YtalpcnomfebdiaaQPredRulesx3
namespace Go.Proofs.Ytalpcnomfebdiaa.QPredRules
open Go.RowKit Go.Proofs.YtalpcnomfebdiaaW.PrintWords Go.Proofs.YtalpcnomfebdiaaW.PrintLast Go.Proofs.YtalpcnomfebdiaaW.PrintMore
attribute [local go_sem] max2_int min2_int max_two min_two max_three min_three max_four min_four   -- for this text's walks alone
set_option linter.unusedVariables false
set_option linter.unusedSimpArgs false

/-! ### pred_part: function 39 -/
mutual
def pred_part.j0 : Nat → Bool → Int → ByteArray → Int → Int → ByteArray → List ByteArray → List (S25) → Option (Bool)
 | 0, _, _, _, _, _, _, _, _ => none
 | k + 1, x54, x134000, x134001, x134002, x134003, x134004, x134005, x134006 => if x54 = true then (some false) else (if x134000 = 1 then (pred_part.j1 k x134000 (x134000 == 1) x134000 x134001 x134002 x134003 x134004 x134005 x134006) else (if x134000 = 2 then (pred_part.j1 k x134000 (x134000 == 2) x134000 x134001 x134002 x134003 x134004 x134005 x134006) else (pred_part.j1 k x134000 (x134000 == 10) x134000 x134001 x134002 x134003 x134004 x134005 x134006)))
def pred_part.j1 : Nat → Int → Bool → Int → ByteArray → Int → Int → ByteArray → List ByteArray → List (S25) → Option (Bool)
 | 0, _, _, _, _, _, _, _, _, _ => none
 | k + 1, x56, x57, x134000, x134001, x134002, x134003, x134004, x134005, x134006 => if x57 = true then (some true) else (if x56 = 3 then (some ((x134006.length : Int) == 1)) else ((row_Name.f k x134001).bind fun t146 => (if t146 = true then ((pred_texts.f (([x134004] : List ByteArray))).bind fun t150 => (if t150 = true then (if (x134005.length : Int) ≤ 8 then ((pred_rising.f k x134005).bind fun t151 => (if t151 = true then ((pred_texts.f x134005).bind fun t152 => (some t152)) else (some false))) else (some false)) else (some false))) else (some false))))
end
def pred_part.f (k : Nat) (a0_0 : Int) (a0_1 : ByteArray) (a0_2 : Int) (a0_3 : Int) (a0_4 : ByteArray) (l0_5 : List ByteArray) (l0_6 : List (S25)) : Option (Bool) := (pred_bare.f k a0_0 a0_1 a0_2 a0_3 a0_4 l0_5 l0_6).bind fun bt134 => (if bt134.1 = 0 then (pred_part.j0 k true a0_0 a0_1 a0_2 a0_3 a0_4 l0_5 l0_6) else (if bt134.2.1.toList = a0_1.toList then (if bt134.2.2.1 = a0_2 then (if bt134.2.2.2.1 = a0_3 then (if bt134.2.2.2.2.1.toList = a0_4.toList then (if (bt134.2.2.2.2.2.1.length : Int) = (l0_5.length : Int) then (pred_part.j0 k ((bt134.2.2.2.2.2.2.length : Int) != (l0_6.length : Int)) a0_0 a0_1 a0_2 a0_3 a0_4 l0_5 l0_6) else (pred_part.j0 k true a0_0 a0_1 a0_2 a0_3 a0_4 l0_5 l0_6)) else (pred_part.j0 k true a0_0 a0_1 a0_2 a0_3 a0_4 l0_5 l0_6)) else (pred_part.j0 k true a0_0 a0_1 a0_2 a0_3 a0_4 l0_5 l0_6)) else (pred_part.j0 k true a0_0 a0_1 a0_2 a0_3 a0_4 l0_5 l0_6)) else (pred_part.j0 k true a0_0 a0_1 a0_2 a0_3 a0_4 l0_5 l0_6)))
theorem pred_part.mono_l : ∀ k, (∀ y0 y1 y2 y3 y4 y5 y6 y7, LeO (pred_part.j0 k y0 y1 y2 y3 y4 y5 y6 y7) (pred_part.j0 (k + 1) y0 y1 y2 y3 y4 y5 y6 y7)) ∧ (∀ y0 y1 y2 y3 y4 y5 y6 y7 y8, LeO (pred_part.j1 k y0 y1 y2 y3 y4 y5 y6 y7 y8) (pred_part.j1 (k + 1) y0 y1 y2 y3 y4 y5 y6 y7 y8))
 | 0 => ⟨fun _ _ _ _ _ _ _ _ r h => by simp [pred_part.j0] at h, fun _ _ _ _ _ _ _ _ _ r h => by simp [pred_part.j1] at h⟩
 | k + 1 => by
  obtain ⟨ih0, ih1⟩ := pred_part.mono_l k
  refine ⟨?_, ?_⟩
  ·intro y0 y1 y2 y3 y4 y5 y6 y7
   unfold pred_part.j0
   repeat' first
   | (with_reducible exact ih0 _ _ _ _ _ _ _ _)
   | (with_reducible exact ih1 _ _ _ _ _ _ _ _ _)
   | (with_reducible exact pred_bare.mono _ _ _ _ _ _ _ _)
   | (with_reducible exact pred_rising.mono _ _)
   | (with_reducible exact row_Name.mono _ _)
   | (with_reducible exact LeO.refl _)
   | (with_reducible exact LeO.none _)
   | (with_reducible refine LeO.ite ?_ ?_)
   | (with_reducible refine LeO.bind ?_ (fun _ => ?_))
   | exact ih0 _ _ _ _ _ _ _ _
   | exact ih1 _ _ _ _ _ _ _ _ _
   | exact pred_bare.mono _ _ _ _ _ _ _ _
   | exact pred_rising.mono _ _
   | exact row_Name.mono _ _
   | exact LeO.none _
   | refine LeO.ite ?_ ?_
   | refine LeO.bind ?_ (fun _ => ?_)
  intro y0 y1 y2 y3 y4 y5 y6 y7 y8
  unfold pred_part.j1
  repeat' first
  | (with_reducible exact ih0 _ _ _ _ _ _ _ _)
  | (with_reducible exact ih1 _ _ _ _ _ _ _ _ _)
  | (with_reducible exact pred_bare.mono _ _ _ _ _ _ _ _)
  | (with_reducible exact pred_rising.mono _ _)
  | (with_reducible exact row_Name.mono _ _)
  | (with_reducible exact LeO.refl _)
  | (with_reducible exact LeO.none _)
  | (with_reducible refine LeO.ite ?_ ?_)
  | (with_reducible refine LeO.bind ?_ (fun _ => ?_))
  | exact ih0 _ _ _ _ _ _ _ _
  | exact ih1 _ _ _ _ _ _ _ _ _
  | exact pred_bare.mono _ _ _ _ _ _ _ _
  | exact pred_rising.mono _ _
  | exact row_Name.mono _ _
  | exact LeO.none _
  | refine LeO.ite ?_ ?_
  | refine LeO.bind ?_ (fun _ => ?_)
theorem pred_part.mono : ∀ a0 a1 a2 a3 a4 a5 a6 k, LeO (pred_part.f k a0 a1 a2 a3 a4 a5 a6) (pred_part.f (k + 1) a0 a1 a2 a3 a4 a5 a6) := by
 intro a0 a1 a2 a3 a4 a5 a6 k
 obtain ⟨ih0, ih1⟩ := pred_part.mono_l k
 unfold pred_part.f
 repeat' first
   | (with_reducible exact ih0 _ _ _ _ _ _ _ _)
   | (with_reducible exact ih1 _ _ _ _ _ _ _ _ _)
   | (with_reducible exact pred_bare.mono _ _ _ _ _ _ _ _)
   | (with_reducible exact pred_rising.mono _ _)
   | (with_reducible exact row_Name.mono _ _)
   | (with_reducible exact LeO.refl _)
   | (with_reducible exact LeO.none _)
   | (with_reducible refine LeO.ite ?_ ?_)
   | (with_reducible refine LeO.bind ?_ (fun _ => ?_))
   | exact ih0 _ _ _ _ _ _ _ _
   | exact ih1 _ _ _ _ _ _ _ _ _
   | exact pred_bare.mono _ _ _ _ _ _ _ _
   | exact pred_rising.mono _ _
   | exact row_Name.mono _ _
   | exact LeO.none _
   | refine LeO.ite ?_ ?_
   | refine LeO.bind ?_ (fun _ => ?_)
set_option maxHeartbeats 8000000 in
set_option maxRecDepth 100000 in
theorem pred_part.calls (k : Nat) (a0_0 : Int) (a0_1 : ByteArray) (a0_2 : Int) (a0_3 : Int) (a0_4 : ByteArray) (A0_5 : Option Addr) (c0_5 : Nat) (l0_5 : List ByteArray) (A0_6 : Option Addr) (c0_6 : Nat) (l0_6 : List (S25)) (r : Bool) (w : World) (hr0_5 : Kd.C Kd.string w A0_5 l0_5.length l0_5) (hc0_5 : l0_5.length ≤ c0_5) (hr0_6 : Kd.C k25 w A0_6 l0_6.length l0_6) (hc0_6 : l0_6.length ≤ c0_6) (h : pred_part.f k a0_0 a0_1 a0_2 a0_3 a0_4 l0_5 l0_6 = some r) :
  Calls Try.prog 39 #[.agg #[.int .i64 a0_0, .string a0_1, .int .i64 a0_2, .int .i64 a0_3, .string a0_4, .slice A0_5 l0_5.length c0_5, .slice A0_6 l0_6.length c0_6]] w fun e w' => e = .returned (.bool r) ∧ Below w.heap.size w w' := by
 have hu25 := Try.underlying25
 have HR0_5 := zM hr0_5
 have HC0_5 := zM hc0_5
 clear hr0_5 hc0_5
 have HR0_6 := zM hr0_6
 have HC0_6 := zM hc0_6
 clear hr0_6 hc0_6
 have HB := zM (Below.refl w.heap.size w)
 have H : ((pred_bare.f k a0_0 a0_1 a0_2 a0_3 a0_4 l0_5 l0_6).bind fun bt134 => (if bt134.1 = 0 then (pred_part.j0 k true a0_0 a0_1 a0_2 a0_3 a0_4 l0_5 l0_6) else (if bt134.2.1.toList = a0_1.toList then (if bt134.2.2.1 = a0_2 then (if bt134.2.2.2.1 = a0_3 then (if bt134.2.2.2.2.1.toList = a0_4.toList then (if (bt134.2.2.2.2.2.1.length : Int) = (l0_5.length : Int) then (pred_part.j0 k ((bt134.2.2.2.2.2.2.length : Int) != (l0_6.length : Int)) a0_0 a0_1 a0_2 a0_3 a0_4 l0_5 l0_6) else (pred_part.j0 k true a0_0 a0_1 a0_2 a0_3 a0_4 l0_5 l0_6)) else (pred_part.j0 k true a0_0 a0_1 a0_2 a0_3 a0_4 l0_5 l0_6)) else (pred_part.j0 k true a0_0 a0_1 a0_2 a0_3 a0_4 l0_5 l0_6)) else (pred_part.j0 k true a0_0 a0_1 a0_2 a0_3 a0_4 l0_5 l0_6)) else (pred_part.j0 k true a0_0 a0_1 a0_2 a0_3 a0_4 l0_5 l0_6)))) = some r := h
 clear h
 replace H := Option.bind_eq_some_iff.mp H
 obtain ⟨⟨t134, t135, t136, t137, t138, t139, t142⟩, A20, H⟩ := H
 try dsimp only at H
 have A2 := zM A20
 clear A20
 have HC3 := zM H
 clear H
 go_enter Try.func39, Try.ntmps39
 go_upto_region 2 with (first | ((with_reducible refine gate_dst (N := 1) rfl ?_); (try (refine gate_guard (by rfl) ?_; dsimp only)); refine box_event ?hg (N := 1) ?hd (cs := #[.int .i64 a0_0, .string a0_1, .int .i64 a0_2, .int .i64 a0_3, .string a0_4, .slice A0_5 l0_5.length c0_5, .slice A0_6 l0_6.length c0_6]) (t := 25) ?hr ?_; (case hd => rfl); (case hg => rfl); (case hr => first | (go_simp; done) | (go_simp; rfl)); intro gb133 hg w4 hbox hb; have BK133 := zM (hbox); have GW133 := zM ((by rw [hg]; exact (below_size (mB HB.out)) : w.heap.size ≤ gb133)); replace HB := zM (below_step (mB HB.out) hb); have GE133 := GW133; clear hb hbox hg; obtain ⟨hcz5_0, hcz5_1, hcz5_2, hcz5_3, hcz5_4, hcz5_5, hcz5_6, hfz5_0, hfz5_1, hfz5_2, hfz5_3, hfz5_4, hfz5_5, hfz5_6⟩ := cells_7 BK133.out) | ((with_reducible refine gate_callee (f := 49) rfl ?_); refine goesL_ (some 5) rfl rfl Try.func49 (by kernel_rfl) rfl #[.agg #[.int .i64 a0_0, .string a0_1, .int .i64 a0_2, .int .i64 a0_3, .string a0_4, .slice A0_5 l0_5.length c0_5, .slice A0_6 l0_6.length c0_6]] rfl yb ?_; (with_reducible refine (pred_bare.calls k a0_0 a0_1 a0_2 a0_3 a0_4 (fun k_ => k_ < w.heap.size) _ _ l0_5 (fun k_ => k_ < w.heap.size) _ _ l0_6 t134 t135 t136 t137 t138 t139 t142 _ ?side1 ?side2 A2.out).mono ?_); (case side1 => exact Kd.V_mk HC0_5.out (Kd.F_below (Kd.C_F Kd.heap_string HR0_5.out) mZ)); (case side2 => exact Kd.V_mk HC0_6.out (Kd.F_below (Kd.C_F k25_heap HR0_6.out) mZ)); rintro e w6 ⟨v140, v143, rfl, ho0, ho1, hb⟩; refine ⟨_, rfl, ?_⟩; have HO141 := zM (Kd.V_lower (Kd.V_mono (ok' := fun k_ => k_ ≠ gb133) ho0 (fun k_ hk_ => Or.elim hk_ (fun hs_ => Or.elim hs_ (fun hs_ => fun e_ => Nat.not_le.2 hs_ (by rw [e_]; exact GW133.out)) (fun hs_ => fun e_ => Nat.not_le.2 hs_ (by rw [e_]; exact GW133.out))) (fun hn_ => (fK BK133 hn_)))) (below_size mZ)); have HO144 := zM (Kd.V_lower (Kd.V_mono (ok' := fun k_ => k_ ≠ gb133) ho1 (fun k_ hk_ => Or.elim hk_ (fun hs_ => Or.elim hs_ (fun hs_ => fun e_ => Nat.not_le.2 hs_ (by rw [e_]; exact GW133.out)) (fun hs_ => fun e_ => Nat.not_le.2 hs_ (by rw [e_]; exact GW133.out))) (fun hn_ => (fK BK133 hn_)))) (below_size mZ)); replace BK133 := zK BK133 hb; replace HB := zM (below_step mZ hb); (try clear hb); (try clear ho0); (try clear ho1)) | ((with_reducible refine gate_dst (N := 3) rfl ?_); (try (refine gate_guard (by rfl) ?_; dsimp only)); refine box_event ?hg (N := 3) ?hd (cs := #[.int .i64 0, .string (⟨#[]⟩ : ByteArray), .int .i64 0, .int .i64 0, .string (⟨#[]⟩ : ByteArray), .slice none 0 0, .slice none 0 0]) (t := 25) ?hr ?_; (case hd => rfl); (case hg => rfl); (case hr => first | (go_simp; done) | (go_simp; rfl)); intro gb145 hg w7 hbox hb; replace HO141 := zM (Kd.V_below (Kd.V_elderB (mV HO141.out) gb145 (Nat.le_of_eq hg.symm)) hb); replace HO144 := zM (Kd.V_below (Kd.V_elderB (mV HO144.out) gb145 (Nat.le_of_eq hg.symm)) hb); have BK145 := zM (hbox); have GW145 := zM ((by rw [hg]; exact (below_size mZ) : w.heap.size ≤ gb145)); replace HB := zM (below_step mZ hb); have GE145 := GW145; have NB133_145 := zL BK133 hg; have NB145_133 := zG BK133 hg; replace BK133 := zK BK133 hb; clear hb hbox hg; have hnb8 := NB145_133.out; have hnc8 := NB133_145.out; obtain ⟨hcz9_0, hcz9_1, hcz9_2, hcz9_3, hcz9_4, hcz9_5, hcz9_6, hfz9_0, hfz9_1, hfz9_2, hfz9_3, hfz9_4, hfz9_5, hfz9_6⟩ := cells_7 BK145.out; obtain ⟨Ao10, co10, eo10⟩ := Kd.V_slice HO141.out; subst eo10; obtain ⟨Ao11, co11, eo11⟩ := Kd.V_slice HO144.out; subst eo11))
 (try simp only [Act.put, List.setIfInBounds_toArray, List.set_cons_zero, List.set_cons_succ])
 go_cut [54] (fun v54 wc => ∃ (kq : Nat) (x54_2 : Bool), v54 = .bool x54_2 ∧ Aside0 (pred_part.j0 kq x54_2 a0_0 a0_1 a0_2 a0_3 a0_4 l0_5 l0_6 = some r) ∧ Aside0 (kq ≤ k) ∧ Aside0 (Kd.V Kd.string 9 wc w.heap.size (fun k_ => k_ ≠ gb133 ∧ k_ ≠ gb145) (.slice Ao10 t139.length co10) t139) ∧ Aside0 (Kd.V k25 25 wc w.heap.size (fun k_ => k_ ≠ gb133 ∧ k_ ≠ gb145) (.slice Ao11 t142.length co11) t142) ∧ Aside0 (wc.heap[gb133]? = some (.cells #[.int .i64 a0_0, .string a0_1, .int .i64 a0_2, .int .i64 a0_3, .string a0_4, (.slice A0_5 l0_5.length c0_5), (.slice A0_6 l0_6.length c0_6)] 25 (0, 0))) ∧ Aside0 (wc.heap[gb145]? = some (.cells #[.int .i64 t134, .string t135, .int .i64 t136, .int .i64 t137, .string t138, (.slice Ao10 t139.length co10), (.slice Ao11 t142.length co11)] 25 (0, 0))) ∧ Aside0 (Below w.heap.size w wc))
 case first =>
  have H := HC3.out
  clear HC3
  by_cases c12 : t134 = 0
  ·rw [if_pos c12] at H
   have c12b0 : (t134 == 0) = true := beq_iff_eq.mpr c12
   have c12b1 : (t134 != 0) = false := bne_eq_false_iff_eq.mpr c12
   clear c12
   (first | rw [c12b0] | rw [c12b1] | (simp only [i64_w, i32_w]; rw [c12b0]) | skip)
   have H' := Aside0.mk H
   clear H
   have hnb13 := NB145_133.out
   have hnc13 := NB133_145.out
   obtain ⟨hcz14_0, hcz14_1, hcz14_2, hcz14_3, hcz14_4, hcz14_5, hcz14_6, hfz14_0, hfz14_1, hfz14_2, hfz14_3, hfz14_4, hfz14_5, hfz14_6⟩ := cells_7 BK145.out
   go_wp2
   go_meet
   case rel => exact ⟨_, (true), ya, H', ⟨by first | omega | exact Nat.le_refl _⟩, ⟨by (with_reducible repeat (first | apply Kd.V_alloc | apply Kd.V_drewN | apply Kd.V_drew)); exact Kd.V_mono (zgV (Kd.V_mono HO141.out (fun k_ hk => (⟨hk, hk.2⟩ : _ ∧ k_ ≠ gb145)))) (fun _ hk => ⟨hk.1.1, hk.1.2⟩)⟩, ⟨by (with_reducible repeat (first | apply Kd.V_alloc | apply Kd.V_drewN | apply Kd.V_drew)); exact Kd.V_mono (zgV (Kd.V_mono HO144.out (fun k_ hk => (⟨hk, hk.2⟩ : _ ∧ k_ ≠ gb145)))) (fun _ hk => ⟨hk.1.1, hk.1.2⟩)⟩, ⟨by (with_reducible repeat (first | refine blk_drewN ?_ _ | refine blk_drew ?_ | refine blk_alloc ?_ _)); refine blk_far ?_ NB133_145.out _; refine blk_far ?_ NB133_145.out _; refine blk_far ?_ NB133_145.out _; refine blk_far ?_ NB133_145.out _; refine blk_far ?_ NB133_145.out _; refine blk_far ?_ NB133_145.out _; refine blk_far ?_ NB133_145.out _; (with_reducible repeat (first | refine blk_drewN ?_ _ | refine blk_drew ?_ | refine blk_alloc ?_ _)); exact BK133.out⟩, ⟨by (with_reducible repeat (first | refine blk_drewN ?_ _ | refine blk_drew ?_ | refine blk_alloc ?_ _)); apply puts_7; (with_reducible repeat (first | refine blk_drewN ?_ _ | refine blk_drew ?_ | refine blk_alloc ?_ _)); exact BK145.out⟩, ⟨mZ⟩⟩
  rw [if_neg c12] at H
  have c12b0 : (t134 == 0) = false := beq_eq_false_iff_ne.mpr c12
  have c12b1 : (t134 != 0) = true := bne_iff_ne.mpr c12
  (first | rw [c12b0] | rw [c12b1] | (simp only [i64_w, i32_w]; rw [c12b0]) | skip)
  by_cases c15 : t135.toList = a0_1.toList
  ·rw [if_pos c15] at H
   have c15b0 : (t135.toList == a0_1.toList) = true := beq_iff_eq.mpr c15
   have c15b1 : (t135.toList != a0_1.toList) = false := bne_eq_false_iff_eq.mpr c15
   clear c15
   by_cases c16 : t136 = a0_2
   ·rw [if_pos c16] at H
    have c16b0 : (t136 == a0_2) = true := beq_iff_eq.mpr c16
    have c16b1 : (t136 != a0_2) = false := bne_eq_false_iff_eq.mpr c16
    clear c16
    by_cases c17 : t137 = a0_3
    ·rw [if_pos c17] at H
     have c17b0 : (t137 == a0_3) = true := beq_iff_eq.mpr c17
     have c17b1 : (t137 != a0_3) = false := bne_eq_false_iff_eq.mpr c17
     clear c17
     by_cases c18 : t138.toList = a0_4.toList
     ·rw [if_pos c18] at H
      have c18b0 : (t138.toList == a0_4.toList) = true := beq_iff_eq.mpr c18
      have c18b1 : (t138.toList != a0_4.toList) = false := bne_eq_false_iff_eq.mpr c18
      clear c18
      by_cases c19 : (t139.length : Int) = (l0_5.length : Int)
      ·rw [if_pos c19] at H
       have c19b0 : ((t139.length : Int) == (l0_5.length : Int)) = true := beq_iff_eq.mpr c19
       have c19b1 : ((t139.length : Int) != (l0_5.length : Int)) = false := bne_eq_false_iff_eq.mpr c19
       have c19b2 : (t139.length == l0_5.length) = true := by first | simpa using c19 | (simp at c19 ⊢; omega)
       clear c19
       have H' := Aside0.mk H
       clear H
       have hnb20 := NB145_133.out
       have hnc20 := NB133_145.out
       obtain ⟨hcz21_0, hcz21_1, hcz21_2, hcz21_3, hcz21_4, hcz21_5, hcz21_6, hfz21_0, hfz21_1, hfz21_2, hfz21_3, hfz21_4, hfz21_5, hfz21_6⟩ := cells_7 BK145.out
       obtain ⟨hcz22_0, hcz22_1, hcz22_2, hcz22_3, hcz22_4, hcz22_5, hcz22_6, hfz22_0, hfz22_1, hfz22_2, hfz22_3, hfz22_4, hfz22_5, hfz22_6⟩ := cells_7 BK133.out
       go_wp2
       go_meet
       case rel => exact ⟨_, (((t142.length : Int) != (l0_6.length : Int))), ya, H', ⟨by first | omega | exact Nat.le_refl _⟩, ⟨by (with_reducible repeat (first | apply Kd.V_alloc | apply Kd.V_drewN | apply Kd.V_drew)); exact Kd.V_mono (zgV (Kd.V_mono HO141.out (fun k_ hk => (⟨hk, hk.2⟩ : _ ∧ k_ ≠ gb145)))) (fun _ hk => ⟨hk.1.1, hk.1.2⟩)⟩, ⟨by (with_reducible repeat (first | apply Kd.V_alloc | apply Kd.V_drewN | apply Kd.V_drew)); exact Kd.V_mono (zgV (Kd.V_mono HO144.out (fun k_ hk => (⟨hk, hk.2⟩ : _ ∧ k_ ≠ gb145)))) (fun _ hk => ⟨hk.1.1, hk.1.2⟩)⟩, ⟨by (with_reducible repeat (first | refine blk_drewN ?_ _ | refine blk_drew ?_ | refine blk_alloc ?_ _)); refine blk_far ?_ NB133_145.out _; refine blk_far ?_ NB133_145.out _; refine blk_far ?_ NB133_145.out _; refine blk_far ?_ NB133_145.out _; refine blk_far ?_ NB133_145.out _; refine blk_far ?_ NB133_145.out _; refine blk_far ?_ NB133_145.out _; (with_reducible repeat (first | refine blk_drewN ?_ _ | refine blk_drew ?_ | refine blk_alloc ?_ _)); exact BK133.out⟩, ⟨by (with_reducible repeat (first | refine blk_drewN ?_ _ | refine blk_drew ?_ | refine blk_alloc ?_ _)); apply puts_7; (with_reducible repeat (first | refine blk_drewN ?_ _ | refine blk_drew ?_ | refine blk_alloc ?_ _)); exact BK145.out⟩, ⟨mZ⟩⟩
      rw [if_neg c19] at H
      have c19b0 : ((t139.length : Int) == (l0_5.length : Int)) = false := beq_eq_false_iff_ne.mpr c19
      have c19b1 : ((t139.length : Int) != (l0_5.length : Int)) = true := bne_iff_ne.mpr c19
      have c19b2 : (t139.length == l0_5.length) = false := by first | simpa using c19 | (simp at c19 ⊢; omega)
      have H' := Aside0.mk H
      clear H
      have hnb23 := NB145_133.out
      have hnc23 := NB133_145.out
      obtain ⟨hcz24_0, hcz24_1, hcz24_2, hcz24_3, hcz24_4, hcz24_5, hcz24_6, hfz24_0, hfz24_1, hfz24_2, hfz24_3, hfz24_4, hfz24_5, hfz24_6⟩ := cells_7 BK145.out
      obtain ⟨hcz25_0, hcz25_1, hcz25_2, hcz25_3, hcz25_4, hcz25_5, hcz25_6, hfz25_0, hfz25_1, hfz25_2, hfz25_3, hfz25_4, hfz25_5, hfz25_6⟩ := cells_7 BK133.out
      go_wp2
      go_meet
      case rel => exact ⟨_, (true), ya, H', ⟨by first | omega | exact Nat.le_refl _⟩, ⟨by (with_reducible repeat (first | apply Kd.V_alloc | apply Kd.V_drewN | apply Kd.V_drew)); exact Kd.V_mono (zgV (Kd.V_mono HO141.out (fun k_ hk => (⟨hk, hk.2⟩ : _ ∧ k_ ≠ gb145)))) (fun _ hk => ⟨hk.1.1, hk.1.2⟩)⟩, ⟨by (with_reducible repeat (first | apply Kd.V_alloc | apply Kd.V_drewN | apply Kd.V_drew)); exact Kd.V_mono (zgV (Kd.V_mono HO144.out (fun k_ hk => (⟨hk, hk.2⟩ : _ ∧ k_ ≠ gb145)))) (fun _ hk => ⟨hk.1.1, hk.1.2⟩)⟩, ⟨by (with_reducible repeat (first | refine blk_drewN ?_ _ | refine blk_drew ?_ | refine blk_alloc ?_ _)); refine blk_far ?_ NB133_145.out _; refine blk_far ?_ NB133_145.out _; refine blk_far ?_ NB133_145.out _; refine blk_far ?_ NB133_145.out _; refine blk_far ?_ NB133_145.out _; refine blk_far ?_ NB133_145.out _; refine blk_far ?_ NB133_145.out _; (with_reducible repeat (first | refine blk_drewN ?_ _ | refine blk_drew ?_ | refine blk_alloc ?_ _)); exact BK133.out⟩, ⟨by (with_reducible repeat (first | refine blk_drewN ?_ _ | refine blk_drew ?_ | refine blk_alloc ?_ _)); apply puts_7; (with_reducible repeat (first | refine blk_drewN ?_ _ | refine blk_drew ?_ | refine blk_alloc ?_ _)); exact BK145.out⟩, ⟨mZ⟩⟩
     rw [if_neg c18] at H
     have c18b0 : (t138.toList == a0_4.toList) = false := beq_eq_false_iff_ne.mpr c18
     have c18b1 : (t138.toList != a0_4.toList) = true := bne_iff_ne.mpr c18
     have H' := Aside0.mk H
     clear H
     have hnb26 := NB145_133.out
     have hnc26 := NB133_145.out
     obtain ⟨hcz27_0, hcz27_1, hcz27_2, hcz27_3, hcz27_4, hcz27_5, hcz27_6, hfz27_0, hfz27_1, hfz27_2, hfz27_3, hfz27_4, hfz27_5, hfz27_6⟩ := cells_7 BK145.out
     obtain ⟨hcz28_0, hcz28_1, hcz28_2, hcz28_3, hcz28_4, hcz28_5, hcz28_6, hfz28_0, hfz28_1, hfz28_2, hfz28_3, hfz28_4, hfz28_5, hfz28_6⟩ := cells_7 BK133.out
     go_wp2
     go_meet
     case rel => exact ⟨_, (true), ya, H', ⟨by first | omega | exact Nat.le_refl _⟩, ⟨by (with_reducible repeat (first | apply Kd.V_alloc | apply Kd.V_drewN | apply Kd.V_drew)); exact Kd.V_mono (zgV (Kd.V_mono HO141.out (fun k_ hk => (⟨hk, hk.2⟩ : _ ∧ k_ ≠ gb145)))) (fun _ hk => ⟨hk.1.1, hk.1.2⟩)⟩, ⟨by (with_reducible repeat (first | apply Kd.V_alloc | apply Kd.V_drewN | apply Kd.V_drew)); exact Kd.V_mono (zgV (Kd.V_mono HO144.out (fun k_ hk => (⟨hk, hk.2⟩ : _ ∧ k_ ≠ gb145)))) (fun _ hk => ⟨hk.1.1, hk.1.2⟩)⟩, ⟨by (with_reducible repeat (first | refine blk_drewN ?_ _ | refine blk_drew ?_ | refine blk_alloc ?_ _)); refine blk_far ?_ NB133_145.out _; refine blk_far ?_ NB133_145.out _; refine blk_far ?_ NB133_145.out _; refine blk_far ?_ NB133_145.out _; refine blk_far ?_ NB133_145.out _; refine blk_far ?_ NB133_145.out _; refine blk_far ?_ NB133_145.out _; (with_reducible repeat (first | refine blk_drewN ?_ _ | refine blk_drew ?_ | refine blk_alloc ?_ _)); exact BK133.out⟩, ⟨by (with_reducible repeat (first | refine blk_drewN ?_ _ | refine blk_drew ?_ | refine blk_alloc ?_ _)); apply puts_7; (with_reducible repeat (first | refine blk_drewN ?_ _ | refine blk_drew ?_ | refine blk_alloc ?_ _)); exact BK145.out⟩, ⟨mZ⟩⟩
    rw [if_neg c17] at H
    have c17b0 : (t137 == a0_3) = false := beq_eq_false_iff_ne.mpr c17
    have c17b1 : (t137 != a0_3) = true := bne_iff_ne.mpr c17
    have H' := Aside0.mk H
    clear H
    have hnb29 := NB145_133.out
    have hnc29 := NB133_145.out
    obtain ⟨hcz30_0, hcz30_1, hcz30_2, hcz30_3, hcz30_4, hcz30_5, hcz30_6, hfz30_0, hfz30_1, hfz30_2, hfz30_3, hfz30_4, hfz30_5, hfz30_6⟩ := cells_7 BK145.out
    obtain ⟨hcz31_0, hcz31_1, hcz31_2, hcz31_3, hcz31_4, hcz31_5, hcz31_6, hfz31_0, hfz31_1, hfz31_2, hfz31_3, hfz31_4, hfz31_5, hfz31_6⟩ := cells_7 BK133.out
    go_wp2
    go_meet
    case rel => exact ⟨_, (true), ya, H', ⟨by first | omega | exact Nat.le_refl _⟩, ⟨by (with_reducible repeat (first | apply Kd.V_alloc | apply Kd.V_drewN | apply Kd.V_drew)); exact Kd.V_mono (zgV (Kd.V_mono HO141.out (fun k_ hk => (⟨hk, hk.2⟩ : _ ∧ k_ ≠ gb145)))) (fun _ hk => ⟨hk.1.1, hk.1.2⟩)⟩, ⟨by (with_reducible repeat (first | apply Kd.V_alloc | apply Kd.V_drewN | apply Kd.V_drew)); exact Kd.V_mono (zgV (Kd.V_mono HO144.out (fun k_ hk => (⟨hk, hk.2⟩ : _ ∧ k_ ≠ gb145)))) (fun _ hk => ⟨hk.1.1, hk.1.2⟩)⟩, ⟨by (with_reducible repeat (first | refine blk_drewN ?_ _ | refine blk_drew ?_ | refine blk_alloc ?_ _)); refine blk_far ?_ NB133_145.out _; refine blk_far ?_ NB133_145.out _; refine blk_far ?_ NB133_145.out _; refine blk_far ?_ NB133_145.out _; refine blk_far ?_ NB133_145.out _; refine blk_far ?_ NB133_145.out _; refine blk_far ?_ NB133_145.out _; (with_reducible repeat (first | refine blk_drewN ?_ _ | refine blk_drew ?_ | refine blk_alloc ?_ _)); exact BK133.out⟩, ⟨by (with_reducible repeat (first | refine blk_drewN ?_ _ | refine blk_drew ?_ | refine blk_alloc ?_ _)); apply puts_7; (with_reducible repeat (first | refine blk_drewN ?_ _ | refine blk_drew ?_ | refine blk_alloc ?_ _)); exact BK145.out⟩, ⟨mZ⟩⟩
   rw [if_neg c16] at H
   have c16b0 : (t136 == a0_2) = false := beq_eq_false_iff_ne.mpr c16
   have c16b1 : (t136 != a0_2) = true := bne_iff_ne.mpr c16
   have H' := Aside0.mk H
   clear H
   have hnb32 := NB145_133.out
   have hnc32 := NB133_145.out
   obtain ⟨hcz33_0, hcz33_1, hcz33_2, hcz33_3, hcz33_4, hcz33_5, hcz33_6, hfz33_0, hfz33_1, hfz33_2, hfz33_3, hfz33_4, hfz33_5, hfz33_6⟩ := cells_7 BK145.out
   obtain ⟨hcz34_0, hcz34_1, hcz34_2, hcz34_3, hcz34_4, hcz34_5, hcz34_6, hfz34_0, hfz34_1, hfz34_2, hfz34_3, hfz34_4, hfz34_5, hfz34_6⟩ := cells_7 BK133.out
   go_wp2
   go_meet
   case rel => exact ⟨_, (true), ya, H', ⟨by first | omega | exact Nat.le_refl _⟩, ⟨by (with_reducible repeat (first | apply Kd.V_alloc | apply Kd.V_drewN | apply Kd.V_drew)); exact Kd.V_mono (zgV (Kd.V_mono HO141.out (fun k_ hk => (⟨hk, hk.2⟩ : _ ∧ k_ ≠ gb145)))) (fun _ hk => ⟨hk.1.1, hk.1.2⟩)⟩, ⟨by (with_reducible repeat (first | apply Kd.V_alloc | apply Kd.V_drewN | apply Kd.V_drew)); exact Kd.V_mono (zgV (Kd.V_mono HO144.out (fun k_ hk => (⟨hk, hk.2⟩ : _ ∧ k_ ≠ gb145)))) (fun _ hk => ⟨hk.1.1, hk.1.2⟩)⟩, ⟨by (with_reducible repeat (first | refine blk_drewN ?_ _ | refine blk_drew ?_ | refine blk_alloc ?_ _)); refine blk_far ?_ NB133_145.out _; refine blk_far ?_ NB133_145.out _; refine blk_far ?_ NB133_145.out _; refine blk_far ?_ NB133_145.out _; refine blk_far ?_ NB133_145.out _; refine blk_far ?_ NB133_145.out _; refine blk_far ?_ NB133_145.out _; (with_reducible repeat (first | refine blk_drewN ?_ _ | refine blk_drew ?_ | refine blk_alloc ?_ _)); exact BK133.out⟩, ⟨by (with_reducible repeat (first | refine blk_drewN ?_ _ | refine blk_drew ?_ | refine blk_alloc ?_ _)); apply puts_7; (with_reducible repeat (first | refine blk_drewN ?_ _ | refine blk_drew ?_ | refine blk_alloc ?_ _)); exact BK145.out⟩, ⟨mZ⟩⟩
  rw [if_neg c15] at H
  have c15b0 : (t135.toList == a0_1.toList) = false := beq_eq_false_iff_ne.mpr c15
  have c15b1 : (t135.toList != a0_1.toList) = true := bne_iff_ne.mpr c15
  have H' := Aside0.mk H
  clear H
  have hnb35 := NB145_133.out
  have hnc35 := NB133_145.out
  obtain ⟨hcz36_0, hcz36_1, hcz36_2, hcz36_3, hcz36_4, hcz36_5, hcz36_6, hfz36_0, hfz36_1, hfz36_2, hfz36_3, hfz36_4, hfz36_5, hfz36_6⟩ := cells_7 BK145.out
  obtain ⟨hcz37_0, hcz37_1, hcz37_2, hcz37_3, hcz37_4, hcz37_5, hcz37_6, hfz37_0, hfz37_1, hfz37_2, hfz37_3, hfz37_4, hfz37_5, hfz37_6⟩ := cells_7 BK133.out
  go_wp2
  go_meet
  case rel => exact ⟨_, (true), ya, H', ⟨by first | omega | exact Nat.le_refl _⟩, ⟨by (with_reducible repeat (first | apply Kd.V_alloc | apply Kd.V_drewN | apply Kd.V_drew)); exact Kd.V_mono (zgV (Kd.V_mono HO141.out (fun k_ hk => (⟨hk, hk.2⟩ : _ ∧ k_ ≠ gb145)))) (fun _ hk => ⟨hk.1.1, hk.1.2⟩)⟩, ⟨by (with_reducible repeat (first | apply Kd.V_alloc | apply Kd.V_drewN | apply Kd.V_drew)); exact Kd.V_mono (zgV (Kd.V_mono HO144.out (fun k_ hk => (⟨hk, hk.2⟩ : _ ∧ k_ ≠ gb145)))) (fun _ hk => ⟨hk.1.1, hk.1.2⟩)⟩, ⟨by (with_reducible repeat (first | refine blk_drewN ?_ _ | refine blk_drew ?_ | refine blk_alloc ?_ _)); refine blk_far ?_ NB133_145.out _; refine blk_far ?_ NB133_145.out _; refine blk_far ?_ NB133_145.out _; refine blk_far ?_ NB133_145.out _; refine blk_far ?_ NB133_145.out _; refine blk_far ?_ NB133_145.out _; refine blk_far ?_ NB133_145.out _; (with_reducible repeat (first | refine blk_drewN ?_ _ | refine blk_drew ?_ | refine blk_alloc ?_ _)); exact BK133.out⟩, ⟨by (with_reducible repeat (first | refine blk_drewN ?_ _ | refine blk_drew ?_ | refine blk_alloc ?_ _)); apply puts_7; (with_reducible repeat (first | refine blk_drewN ?_ _ | refine blk_drew ?_ | refine blk_alloc ?_ _)); exact BK145.out⟩, ⟨mZ⟩⟩
 clear HC3
 try clear c12
 try clear c12b0
 try clear c12b1
 try clear c15
 try clear c15b0
 try clear c15b1
 try clear c16
 try clear c16b0
 try clear c16b1
 try clear c17
 try clear c17b0
 try clear c17b1
 try clear c18
 try clear c18b0
 try clear c18b1
 try clear c19
 try clear c19b0
 try clear c19b1
 try clear c19b2
 try clear hcz14_0
 try clear hcz14_1
 try clear hcz14_2
 try clear hcz14_3
 try clear hcz14_4
 try clear hcz14_5
 try clear hcz14_6
 try clear hcz21_0
 try clear hcz21_1
 try clear hcz21_2
 try clear hcz21_3
 try clear hcz21_4
 try clear hcz21_5
 try clear hcz21_6
 try clear hcz22_0
 try clear hcz22_1
 try clear hcz22_2
 try clear hcz22_3
 try clear hcz22_4
 try clear hcz22_5
 try clear hcz22_6
 try clear hcz24_0
 try clear hcz24_1
 try clear hcz24_2
 try clear hcz24_3
 try clear hcz24_4
 try clear hcz24_5
 try clear hcz24_6
 try clear hcz25_0
 try clear hcz25_1
 try clear hcz25_2
 try clear hcz25_3
 try clear hcz25_4
 try clear hcz25_5
 try clear hcz25_6
 try clear hcz27_0
 try clear hcz27_1
 try clear hcz27_2
 try clear hcz27_3
 try clear hcz27_4
 try clear hcz27_5
 try clear hcz27_6
 try clear hcz28_0
 try clear hcz28_1
 try clear hcz28_2
 try clear hcz28_3
 try clear hcz28_4
 try clear hcz28_5
 try clear hcz28_6
 try clear hcz30_0
 try clear hcz30_1
 try clear hcz30_2
 try clear hcz30_3
 try clear hcz30_4
 try clear hcz30_5
 try clear hcz30_6
 try clear hcz31_0
 try clear hcz31_1
 try clear hcz31_2
 try clear hcz31_3
 try clear hcz31_4
 try clear hcz31_5
 try clear hcz31_6
 try clear hcz33_0
 try clear hcz33_1
 try clear hcz33_2
 try clear hcz33_3
 try clear hcz33_4
 try clear hcz33_5
 try clear hcz33_6
 try clear hcz34_0
 try clear hcz34_1
 try clear hcz34_2
 try clear hcz34_3
 try clear hcz34_4
 try clear hcz34_5
 try clear hcz34_6
 try clear hcz36_0
 try clear hcz36_1
 try clear hcz36_2
 try clear hcz36_3
 try clear hcz36_4
 try clear hcz36_5
 try clear hcz36_6
 try clear hcz37_0
 try clear hcz37_1
 try clear hcz37_2
 try clear hcz37_3
 try clear hcz37_4
 try clear hcz37_5
 try clear hcz37_6
 try clear hcz5_0
 try clear hcz5_1
 try clear hcz5_2
 try clear hcz5_3
 try clear hcz5_4
 try clear hcz5_5
 try clear hcz5_6
 try clear hcz9_0
 try clear hcz9_1
 try clear hcz9_2
 try clear hcz9_3
 try clear hcz9_4
 try clear hcz9_5
 try clear hcz9_6
 try clear hfz14_0
 try clear hfz14_1
 try clear hfz14_2
 try clear hfz14_3
 try clear hfz14_4
 try clear hfz14_5
 try clear hfz14_6
 try clear hfz21_0
 try clear hfz21_1
 try clear hfz21_2
 try clear hfz21_3
 try clear hfz21_4
 try clear hfz21_5
 try clear hfz21_6
 try clear hfz22_0
 try clear hfz22_1
 try clear hfz22_2
 try clear hfz22_3
 try clear hfz22_4
 try clear hfz22_5
 try clear hfz22_6
 try clear hfz24_0
 try clear hfz24_1
 try clear hfz24_2
 try clear hfz24_3
 try clear hfz24_4
 try clear hfz24_5
 try clear hfz24_6
 try clear hfz25_0
 try clear hfz25_1
 try clear hfz25_2
 try clear hfz25_3
 try clear hfz25_4
 try clear hfz25_5
 try clear hfz25_6
 try clear hfz27_0
 try clear hfz27_1
 try clear hfz27_2
 try clear hfz27_3
 try clear hfz27_4
 try clear hfz27_5
 try clear hfz27_6
 try clear hfz28_0
 try clear hfz28_1
 try clear hfz28_2
 try clear hfz28_3
 try clear hfz28_4
 try clear hfz28_5
 try clear hfz28_6
 try clear hfz30_0
 try clear hfz30_1
 try clear hfz30_2
 try clear hfz30_3
 try clear hfz30_4
 try clear hfz30_5
 try clear hfz30_6
 try clear hfz31_0
 try clear hfz31_1
 try clear hfz31_2
 try clear hfz31_3
 try clear hfz31_4
 try clear hfz31_5
 try clear hfz31_6
 try clear hfz33_0
 try clear hfz33_1
 try clear hfz33_2
 try clear hfz33_3
 try clear hfz33_4
 try clear hfz33_5
 try clear hfz33_6
 try clear hfz34_0
 try clear hfz34_1
 try clear hfz34_2
 try clear hfz34_3
 try clear hfz34_4
 try clear hfz34_5
 try clear hfz34_6
 try clear hfz36_0
 try clear hfz36_1
 try clear hfz36_2
 try clear hfz36_3
 try clear hfz36_4
 try clear hfz36_5
 try clear hfz36_6
 try clear hfz37_0
 try clear hfz37_1
 try clear hfz37_2
 try clear hfz37_3
 try clear hfz37_4
 try clear hfz37_5
 try clear hfz37_6
 try clear hfz5_0
 try clear hfz5_1
 try clear hfz5_2
 try clear hfz5_3
 try clear hfz5_4
 try clear hfz5_5
 try clear hfz5_6
 try clear hfz9_0
 try clear hfz9_1
 try clear hfz9_2
 try clear hfz9_3
 try clear hfz9_4
 try clear hfz9_5
 try clear hfz9_6
 obtain ⟨kq, x54_2, rfl, HA, HJ2, HO_146005, HO_146006, BK133, BK145, HB⟩ := hcut
 cases kq with
 | zero => exact absurd HA.out (by simp [pred_part.j0])
 | succ kj2 =>
  have H := HA.out
  clear HA
  simp only [pred_part.j0] at H
  by_cases c38 : x54_2 = true
  ·subst c38
   rw [if_pos rfl] at H
   obtain rfl := Option.some.inj H
   go_wp2
   go_ret
   exact ⟨by first | rfl | (simp [errW_none, errW_some] <;> rfl) | (simp [*, errW_none, errW_some] <;> rfl), mZ⟩
  replace c38 := Bool.eq_false_iff.mpr c38
  subst c38
  rw [if_neg (show ¬ (false = true) by decide)] at H
  have HC39 := zM H
  clear H
  have hnb40 := NB133_145.out
  have hnc40 := NB145_133.out
  obtain ⟨hcz41_0, hcz41_1, hcz41_2, hcz41_3, hcz41_4, hcz41_5, hcz41_6, hfz41_0, hfz41_1, hfz41_2, hfz41_3, hfz41_4, hfz41_5, hfz41_6⟩ := cells_7 BK133.out
  go_upto_if 57 with (fail)
  go_cut [57] (fun v57 wc => ∃ (kq : Nat) (x57_38 : Bool), v57 = .bool x57_38 ∧ Aside0 (pred_part.j1 kq a0_0 x57_38 a0_0 a0_1 a0_2 a0_3 a0_4 l0_5 l0_6 = some r) ∧ Aside0 (kq ≤ kj2) ∧ Aside0 (Kd.V Kd.string 9 wc w.heap.size (fun k_ => k_ ≠ gb133 ∧ k_ ≠ gb145) (.slice Ao10 t139.length co10) t139) ∧ Aside0 (Kd.V k25 25 wc w.heap.size (fun k_ => k_ ≠ gb133 ∧ k_ ≠ gb145) (.slice Ao11 t142.length co11) t142) ∧ Aside0 (wc.heap[gb133]? = some (.cells #[.int .i64 a0_0, .string a0_1, .int .i64 a0_2, .int .i64 a0_3, .string a0_4, (.slice A0_5 l0_5.length c0_5), (.slice A0_6 l0_6.length c0_6)] 25 (0, 0))) ∧ Aside0 (wc.heap[gb145]? = some (.cells #[.int .i64 t134, .string t135, .int .i64 t136, .int .i64 t137, .string t138, (.slice Ao10 t139.length co10), (.slice Ao11 t142.length co11)] 25 (0, 0))) ∧ Aside0 (Below w.heap.size w wc))
  case first =>
   have H := HC39.out
   clear HC39
   by_cases c42 : a0_0 = 1
   ·rw [if_pos c42] at H
    have c42b0 : (a0_0 == 1) = true := beq_iff_eq.mpr c42
    have c42b1 : (a0_0 != 1) = false := bne_eq_false_iff_eq.mpr c42
    clear c42
    (first | rw [c42b0] | rw [c42b1] | (simp only [i64_w, i32_w]; rw [c42b0]) | skip)
    have H' := Aside0.mk H
    clear H
    go_wp2
    go_meet
    case rel => exact ⟨_, ((a0_0 == 1)), ya, H', ⟨by have := HJ2.out; first | omega | exact Nat.le_refl _⟩, ⟨mV HO_146005.out⟩, ⟨mV HO_146006.out⟩, ⟨mK BK133.out⟩, ⟨mK BK145.out⟩, ⟨mZ⟩⟩
   rw [if_neg c42] at H
   have c42b0 : (a0_0 == 1) = false := beq_eq_false_iff_ne.mpr c42
   have c42b1 : (a0_0 != 1) = true := bne_iff_ne.mpr c42
   (first | rw [c42b0] | rw [c42b1] | (simp only [i64_w, i32_w]; rw [c42b0]) | skip)
   by_cases c43 : a0_0 = 2
   ·rw [if_pos c43] at H
    have c43b0 : (a0_0 == 2) = true := beq_iff_eq.mpr c43
    have c43b1 : (a0_0 != 2) = false := bne_eq_false_iff_eq.mpr c43
    clear c43
    have H' := Aside0.mk H
    clear H
    go_wp2
    go_meet
    case rel => exact ⟨_, ((a0_0 == 2)), ya, H', ⟨by have := HJ2.out; first | omega | exact Nat.le_refl _⟩, ⟨mV HO_146005.out⟩, ⟨mV HO_146006.out⟩, ⟨mK BK133.out⟩, ⟨mK BK145.out⟩, ⟨mZ⟩⟩
   rw [if_neg c43] at H
   have c43b0 : (a0_0 == 2) = false := beq_eq_false_iff_ne.mpr c43
   have c43b1 : (a0_0 != 2) = true := bne_iff_ne.mpr c43
   have H' := Aside0.mk H
   clear H
   go_wp2
   go_meet
   case rel => exact ⟨_, ((a0_0 == 10)), ya, H', ⟨by have := HJ2.out; first | omega | exact Nat.le_refl _⟩, ⟨mV HO_146005.out⟩, ⟨mV HO_146006.out⟩, ⟨mK BK133.out⟩, ⟨mK BK145.out⟩, ⟨mZ⟩⟩
  clear HC39
  try clear c12
  try clear c12b0
  try clear c12b1
  try clear c15
  try clear c15b0
  try clear c15b1
  try clear c16
  try clear c16b0
  try clear c16b1
  try clear c17
  try clear c17b0
  try clear c17b1
  try clear c18
  try clear c18b0
  try clear c18b1
  try clear c19
  try clear c19b0
  try clear c19b1
  try clear c19b2
  try clear c38
  try clear c42
  try clear c42b0
  try clear c42b1
  try clear c43
  try clear c43b0
  try clear c43b1
  try clear hcz14_0
  try clear hcz14_1
  try clear hcz14_2
  try clear hcz14_3
  try clear hcz14_4
  try clear hcz14_5
  try clear hcz14_6
  try clear hcz21_0
  try clear hcz21_1
  try clear hcz21_2
  try clear hcz21_3
  try clear hcz21_4
  try clear hcz21_5
  try clear hcz21_6
  try clear hcz22_0
  try clear hcz22_1
  try clear hcz22_2
  try clear hcz22_3
  try clear hcz22_4
  try clear hcz22_5
  try clear hcz22_6
  try clear hcz24_0
  try clear hcz24_1
  try clear hcz24_2
  try clear hcz24_3
  try clear hcz24_4
  try clear hcz24_5
  try clear hcz24_6
  try clear hcz25_0
  try clear hcz25_1
  try clear hcz25_2
  try clear hcz25_3
  try clear hcz25_4
  try clear hcz25_5
  try clear hcz25_6
  try clear hcz27_0
  try clear hcz27_1
  try clear hcz27_2
  try clear hcz27_3
  try clear hcz27_4
  try clear hcz27_5
  try clear hcz27_6
  try clear hcz28_0
  try clear hcz28_1
  try clear hcz28_2
  try clear hcz28_3
  try clear hcz28_4
  try clear hcz28_5
  try clear hcz28_6
  try clear hcz30_0
  try clear hcz30_1
  try clear hcz30_2
  try clear hcz30_3
  try clear hcz30_4
  try clear hcz30_5
  try clear hcz30_6
  try clear hcz31_0
  try clear hcz31_1
  try clear hcz31_2
  try clear hcz31_3
  try clear hcz31_4
  try clear hcz31_5
  try clear hcz31_6
  try clear hcz33_0
  try clear hcz33_1
  try clear hcz33_2
  try clear hcz33_3
  try clear hcz33_4
  try clear hcz33_5
  try clear hcz33_6
  try clear hcz34_0
  try clear hcz34_1
  try clear hcz34_2
  try clear hcz34_3
  try clear hcz34_4
  try clear hcz34_5
  try clear hcz34_6
  try clear hcz36_0
  try clear hcz36_1
  try clear hcz36_2
  try clear hcz36_3
  try clear hcz36_4
  try clear hcz36_5
  try clear hcz36_6
  try clear hcz37_0
  try clear hcz37_1
  try clear hcz37_2
  try clear hcz37_3
  try clear hcz37_4
  try clear hcz37_5
  try clear hcz37_6
  try clear hcz41_0
  try clear hcz41_1
  try clear hcz41_2
  try clear hcz41_3
  try clear hcz41_4
  try clear hcz41_5
  try clear hcz41_6
  try clear hcz5_0
  try clear hcz5_1
  try clear hcz5_2
  try clear hcz5_3
  try clear hcz5_4
  try clear hcz5_5
  try clear hcz5_6
  try clear hcz9_0
  try clear hcz9_1
  try clear hcz9_2
  try clear hcz9_3
  try clear hcz9_4
  try clear hcz9_5
  try clear hcz9_6
  try clear hfz14_0
  try clear hfz14_1
  try clear hfz14_2
  try clear hfz14_3
  try clear hfz14_4
  try clear hfz14_5
  try clear hfz14_6
  try clear hfz21_0
  try clear hfz21_1
  try clear hfz21_2
  try clear hfz21_3
  try clear hfz21_4
  try clear hfz21_5
  try clear hfz21_6
  try clear hfz22_0
  try clear hfz22_1
  try clear hfz22_2
  try clear hfz22_3
  try clear hfz22_4
  try clear hfz22_5
  try clear hfz22_6
  try clear hfz24_0
  try clear hfz24_1
  try clear hfz24_2
  try clear hfz24_3
  try clear hfz24_4
  try clear hfz24_5
  try clear hfz24_6
  try clear hfz25_0
  try clear hfz25_1
  try clear hfz25_2
  try clear hfz25_3
  try clear hfz25_4
  try clear hfz25_5
  try clear hfz25_6
  try clear hfz27_0
  try clear hfz27_1
  try clear hfz27_2
  try clear hfz27_3
  try clear hfz27_4
  try clear hfz27_5
  try clear hfz27_6
  try clear hfz28_0
  try clear hfz28_1
  try clear hfz28_2
  try clear hfz28_3
  try clear hfz28_4
  try clear hfz28_5
  try clear hfz28_6
  try clear hfz30_0
  try clear hfz30_1
  try clear hfz30_2
  try clear hfz30_3
  try clear hfz30_4
  try clear hfz30_5
  try clear hfz30_6
  try clear hfz31_0
  try clear hfz31_1
  try clear hfz31_2
  try clear hfz31_3
  try clear hfz31_4
  try clear hfz31_5
  try clear hfz31_6
  try clear hfz33_0
  try clear hfz33_1
  try clear hfz33_2
  try clear hfz33_3
  try clear hfz33_4
  try clear hfz33_5
  try clear hfz33_6
  try clear hfz34_0
  try clear hfz34_1
  try clear hfz34_2
  try clear hfz34_3
  try clear hfz34_4
  try clear hfz34_5
  try clear hfz34_6
  try clear hfz36_0
  try clear hfz36_1
  try clear hfz36_2
  try clear hfz36_3
  try clear hfz36_4
  try clear hfz36_5
  try clear hfz36_6
  try clear hfz37_0
  try clear hfz37_1
  try clear hfz37_2
  try clear hfz37_3
  try clear hfz37_4
  try clear hfz37_5
  try clear hfz37_6
  try clear hfz41_0
  try clear hfz41_1
  try clear hfz41_2
  try clear hfz41_3
  try clear hfz41_4
  try clear hfz41_5
  try clear hfz41_6
  try clear hfz5_0
  try clear hfz5_1
  try clear hfz5_2
  try clear hfz5_3
  try clear hfz5_4
  try clear hfz5_5
  try clear hfz5_6
  try clear hfz9_0
  try clear hfz9_1
  try clear hfz9_2
  try clear hfz9_3
  try clear hfz9_4
  try clear hfz9_5
  try clear hfz9_6
  obtain ⟨kq, x57_38, rfl, HA, HJ38, HO_146005, HO_146006, BK133, BK145, HB⟩ := hcut
  cases kq with
  | zero => exact absurd HA.out (by simp [pred_part.j1])
  | succ kj38 =>
   have H := HA.out
   clear HA
   simp only [pred_part.j1] at H
   by_cases c44 : x57_38 = true
   ·subst c44
    rw [if_pos rfl] at H
    obtain rfl := Option.some.inj H
    go_wp2
    go_ret
    exact ⟨by first | rfl | (simp [errW_none, errW_some] <;> rfl) | (simp [*, errW_none, errW_some] <;> rfl), mZ⟩
   replace c44 := Bool.eq_false_iff.mpr c44
   subst c44
   rw [if_neg (show ¬ (false = true) by decide)] at H
   by_cases c45 : a0_0 = 3
   ·rw [if_pos c45] at H
    have c45b0 : (a0_0 == 3) = true := beq_iff_eq.mpr c45
    have c45b1 : (a0_0 != 3) = false := bne_eq_false_iff_eq.mpr c45
    clear c45
    obtain rfl := Option.some.inj H
    have hnb46 := NB133_145.out
    have hnc46 := NB145_133.out
    obtain ⟨hcz47_0, hcz47_1, hcz47_2, hcz47_3, hcz47_4, hcz47_5, hcz47_6, hfz47_0, hfz47_1, hfz47_2, hfz47_3, hfz47_4, hfz47_5, hfz47_6⟩ := cells_7 BK133.out
    go_wp2
    go_ret
    exact ⟨by first | rfl | (simp [errW_none, errW_some] <;> rfl) | (simp [*, errW_none, errW_some] <;> rfl), mZ⟩
   rw [if_neg c45] at H
   have c45b0 : (a0_0 == 3) = false := beq_eq_false_iff_ne.mpr c45
   have c45b1 : (a0_0 != 3) = true := bne_iff_ne.mpr c45
   replace H := Option.bind_eq_some_iff.mp H
   obtain ⟨t146, A480, H⟩ := H
   try dsimp only at H
   have A48 := zM A480
   clear A480
   by_cases c49 : t146 = true
   ·subst c49
    rw [if_pos rfl] at H
    obtain ⟨y147, hy147⟩ : ∃ y_ : List ByteArray, y_ = (([a0_4] : List ByteArray)) := ⟨_, rfl⟩
    replace H : ((pred_texts.f y147).bind fun t150 => (if t150 = true then (if (l0_5.length : Int) ≤ 8 then ((pred_rising.f kj38 l0_5).bind fun t151 => (if t151 = true then ((pred_texts.f l0_5).bind fun t152 => (some t152)) else (some false))) else (some false)) else (some false))) = some r := by first | (rw [hy147]; with_reducible exact H) | (have H2_ := (Option.bind_some _ _).symm.trans H; rw [hy147]; with_reducible exact H2_) | (have H2_ := (Option.bind_some _ _).symm.trans H; with_reducible exact H2_) | with_reducible exact H | (rw [hy147]; exact H) | exact H
    have Ny147 := zM hy147
    clear hy147
    replace H := Option.bind_eq_some_iff.mp H
    obtain ⟨t150, A500, H⟩ := H
    try dsimp only at H
    have A50 := zM A500
    clear A500
    by_cases c51 : t150 = true
    ·subst c51
     rw [if_pos rfl] at H
     by_cases c52 : (l0_5.length : Int) ≤ 8
     ·rw [if_pos c52] at H
      have c52b0 : decide ((l0_5.length : Int) ≤ 8) = true := decide_eq_true c52
      have c52b1 : decide (l0_5.length ≤ 8) = true := decide_eq_true (by omega)
      clear c52
      replace H := Option.bind_eq_some_iff.mp H
      obtain ⟨t151, A530, H⟩ := H
      try dsimp only at H
      have A53 := zM A530
      clear A530
      by_cases c54 : t151 = true
      ·subst c54
       rw [if_pos rfl] at H
       replace H := Option.bind_eq_some_iff.mp H
       obtain ⟨t152, A550, H⟩ := H
       try dsimp only at H
       have A55 := zM A550
       clear A550
       obtain rfl := Option.some.inj H
       have hnb56 := NB133_145.out
       have hnc56 := NB145_133.out
       obtain ⟨hcz57_0, hcz57_1, hcz57_2, hcz57_3, hcz57_4, hcz57_5, hcz57_6, hfz57_0, hfz57_1, hfz57_2, hfz57_3, hfz57_4, hfz57_5, hfz57_6⟩ := cells_7 BK133.out
       go_wp2_with (first | ((with_reducible refine gate_callee (f := 50) rfl ?_); refine goesL_ (some 69) rfl rfl Try.func50 (by kernel_rfl) rfl #[.string a0_1] rfl yb ?_; (with_reducible refine (row_Name.calls kj38 a0_1 true _ A48.out).mono ?_); rintro e w' ⟨rfl, ⟨nd, rfl⟩⟩; refine ⟨_, rfl, ?_⟩) | ((with_reducible refine gate_dst (N := 73) rfl ?_); (try (refine gate_guard (by rfl) ?_; dsimp only)); refine Kd.R_lit Kd.string _ 9 ?hg (N := 73) ?hd (xs := ([a0_4] : List ByteArray)) (inner := [.string a0_4]) (ok := fun _ => True) (okp := fun _ => True) ?hr ?hp (fun _ hk => hk) trivial (Below.refl _ _) (Nat.le_refl _) (by simp) ?_; (case hd => rfl); (case hg => rfl); (case hr => first | (go_simp; done) | (go_simp; rfl)); (case hp => exact (Reps.one (show Kd.M Kd.string _ _ _ a0_4 [.string a0_4] from rfl) (Reps.none _ _))); intro v148 w58 ho59 hb hg_ hnew_; clear hg_ hnew_; (first | rw [← Ny147.out] at ho59 | (simp only [Int.reduceToNat] at ho59; rw [← Ny147.out] at ho59)); have HO149 := zM (Kd.R_lower ho59 (below_size mZ)); replace BK133 := zK BK133 hb; replace HB := zM (below_step mZ hb); clear hb ho59; obtain ⟨Ao60, co60, eo60⟩ := Kd.R_slice HO149.out; subst eo60) | (go_at_call 51; (with_reducible refine (pred_texts.calls _ _ y147 true _ ?side1 ?side2 A50.out).mono ?_); (case side1 => exact zC ((Kd.R_reads' HO149.out).2.2)); (case side2 => exact (Kd.R_reads' HO149.out).2.1); rintro e w' ⟨rfl, ⟨nd, rfl⟩⟩; obtain ⟨hcz61_0, hcz61_1, hcz61_2, hcz61_3, hcz61_4, hcz61_5, hcz61_6, hfz61_0, hfz61_1, hfz61_2, hfz61_3, hfz61_4, hfz61_5, hfz61_6⟩ := cells_7 BK133.out) | (go_at_call 52; (with_reducible refine (pred_rising.calls kj38 _ _ l0_5 true _ ?side1 ?side2 A53.out).mono ?_); (case side1 => exact zC (Kd.C_below HR0_5.out mZ)); (case side2 => first | exact HC0_5.out | exact Kd.V_mono HC0_5.out (fun k_ hk_ => by grind)); rintro e w' ⟨rfl, ⟨nd, rfl⟩⟩) | (go_at_call 51; (with_reducible refine (pred_texts.calls _ _ l0_5 t152 _ ?side1 ?side2 A55.out).mono ?_); (case side1 => exact zC (Kd.C_below HR0_5.out mZ)); (case side2 => first | exact HC0_5.out | exact Kd.V_mono HC0_5.out (fun k_ hk_ => by grind)); rintro e w' ⟨rfl, ⟨nd, rfl⟩⟩))
       go_ret
       exact ⟨by first | rfl | (simp [errW_none, errW_some] <;> rfl) | (simp [*, errW_none, errW_some] <;> rfl), mZ⟩
      replace c54 := Bool.eq_false_iff.mpr c54
      subst c54
      rw [if_neg (show ¬ (false = true) by decide)] at H
      obtain rfl := Option.some.inj H
      have hnb62 := NB133_145.out
      have hnc62 := NB145_133.out
      obtain ⟨hcz63_0, hcz63_1, hcz63_2, hcz63_3, hcz63_4, hcz63_5, hcz63_6, hfz63_0, hfz63_1, hfz63_2, hfz63_3, hfz63_4, hfz63_5, hfz63_6⟩ := cells_7 BK133.out
      go_wp2_with (first | ((with_reducible refine gate_callee (f := 50) rfl ?_); refine goesL_ (some 69) rfl rfl Try.func50 (by kernel_rfl) rfl #[.string a0_1] rfl yb ?_; (with_reducible refine (row_Name.calls kj38 a0_1 true _ A48.out).mono ?_); rintro e w' ⟨rfl, ⟨nd, rfl⟩⟩; refine ⟨_, rfl, ?_⟩) | ((with_reducible refine gate_dst (N := 73) rfl ?_); (try (refine gate_guard (by rfl) ?_; dsimp only)); refine Kd.R_lit Kd.string _ 9 ?hg (N := 73) ?hd (xs := ([a0_4] : List ByteArray)) (inner := [.string a0_4]) (ok := fun _ => True) (okp := fun _ => True) ?hr ?hp (fun _ hk => hk) trivial (Below.refl _ _) (Nat.le_refl _) (by simp) ?_; (case hd => rfl); (case hg => rfl); (case hr => first | (go_simp; done) | (go_simp; rfl)); (case hp => exact (Reps.one (show Kd.M Kd.string _ _ _ a0_4 [.string a0_4] from rfl) (Reps.none _ _))); intro v148 w64 ho65 hb hg_ hnew_; clear hg_ hnew_; (first | rw [← Ny147.out] at ho65 | (simp only [Int.reduceToNat] at ho65; rw [← Ny147.out] at ho65)); have HO149 := zM (Kd.R_lower ho65 (below_size mZ)); replace BK133 := zK BK133 hb; replace HB := zM (below_step mZ hb); clear hb ho65; obtain ⟨Ao66, co66, eo66⟩ := Kd.R_slice HO149.out; subst eo66) | (go_at_call 51; (with_reducible refine (pred_texts.calls _ _ y147 true _ ?side1 ?side2 A50.out).mono ?_); (case side1 => exact zC ((Kd.R_reads' HO149.out).2.2)); (case side2 => exact (Kd.R_reads' HO149.out).2.1); rintro e w' ⟨rfl, ⟨nd, rfl⟩⟩; obtain ⟨hcz67_0, hcz67_1, hcz67_2, hcz67_3, hcz67_4, hcz67_5, hcz67_6, hfz67_0, hfz67_1, hfz67_2, hfz67_3, hfz67_4, hfz67_5, hfz67_6⟩ := cells_7 BK133.out) | (go_at_call 52; (with_reducible refine (pred_rising.calls kj38 _ _ l0_5 false _ ?side1 ?side2 A53.out).mono ?_); (case side1 => exact zC (Kd.C_below HR0_5.out mZ)); (case side2 => first | exact HC0_5.out | exact Kd.V_mono HC0_5.out (fun k_ hk_ => by grind)); rintro e w' ⟨rfl, ⟨nd, rfl⟩⟩))
      go_ret
      exact ⟨by first | rfl | (simp [errW_none, errW_some] <;> rfl) | (simp [*, errW_none, errW_some] <;> rfl), mZ⟩
     rw [if_neg c52] at H
     have c52b0 : decide ((l0_5.length : Int) ≤ 8) = false := decide_eq_false c52
     have c52b1 : decide (l0_5.length ≤ 8) = false := decide_eq_false (by omega)
     clear c52
     obtain rfl := Option.some.inj H
     have hnb68 := NB133_145.out
     have hnc68 := NB145_133.out
     obtain ⟨hcz69_0, hcz69_1, hcz69_2, hcz69_3, hcz69_4, hcz69_5, hcz69_6, hfz69_0, hfz69_1, hfz69_2, hfz69_3, hfz69_4, hfz69_5, hfz69_6⟩ := cells_7 BK133.out
     go_wp2_with (first | ((with_reducible refine gate_callee (f := 50) rfl ?_); refine goesL_ (some 69) rfl rfl Try.func50 (by kernel_rfl) rfl #[.string a0_1] rfl yb ?_; (with_reducible refine (row_Name.calls kj38 a0_1 true _ A48.out).mono ?_); rintro e w' ⟨rfl, ⟨nd, rfl⟩⟩; refine ⟨_, rfl, ?_⟩) | ((with_reducible refine gate_dst (N := 73) rfl ?_); (try (refine gate_guard (by rfl) ?_; dsimp only)); refine Kd.R_lit Kd.string _ 9 ?hg (N := 73) ?hd (xs := ([a0_4] : List ByteArray)) (inner := [.string a0_4]) (ok := fun _ => True) (okp := fun _ => True) ?hr ?hp (fun _ hk => hk) trivial (Below.refl _ _) (Nat.le_refl _) (by simp) ?_; (case hd => rfl); (case hg => rfl); (case hr => first | (go_simp; done) | (go_simp; rfl)); (case hp => exact (Reps.one (show Kd.M Kd.string _ _ _ a0_4 [.string a0_4] from rfl) (Reps.none _ _))); intro v148 w70 ho71 hb hg_ hnew_; clear hg_ hnew_; (first | rw [← Ny147.out] at ho71 | (simp only [Int.reduceToNat] at ho71; rw [← Ny147.out] at ho71)); have HO149 := zM (Kd.R_lower ho71 (below_size mZ)); replace BK133 := zK BK133 hb; replace HB := zM (below_step mZ hb); clear hb ho71; obtain ⟨Ao72, co72, eo72⟩ := Kd.R_slice HO149.out; subst eo72) | (go_at_call 51; (with_reducible refine (pred_texts.calls _ _ y147 true _ ?side1 ?side2 A50.out).mono ?_); (case side1 => exact zC ((Kd.R_reads' HO149.out).2.2)); (case side2 => exact (Kd.R_reads' HO149.out).2.1); rintro e w' ⟨rfl, ⟨nd, rfl⟩⟩; obtain ⟨hcz73_0, hcz73_1, hcz73_2, hcz73_3, hcz73_4, hcz73_5, hcz73_6, hfz73_0, hfz73_1, hfz73_2, hfz73_3, hfz73_4, hfz73_5, hfz73_6⟩ := cells_7 BK133.out))
     go_ret
     exact ⟨by first | rfl | (simp [errW_none, errW_some] <;> rfl) | (simp [*, errW_none, errW_some] <;> rfl), mZ⟩
    replace c51 := Bool.eq_false_iff.mpr c51
    subst c51
    rw [if_neg (show ¬ (false = true) by decide)] at H
    obtain rfl := Option.some.inj H
    have hnb74 := NB133_145.out
    have hnc74 := NB145_133.out
    obtain ⟨hcz75_0, hcz75_1, hcz75_2, hcz75_3, hcz75_4, hcz75_5, hcz75_6, hfz75_0, hfz75_1, hfz75_2, hfz75_3, hfz75_4, hfz75_5, hfz75_6⟩ := cells_7 BK133.out
    go_wp2_with (first | ((with_reducible refine gate_callee (f := 50) rfl ?_); refine goesL_ (some 69) rfl rfl Try.func50 (by kernel_rfl) rfl #[.string a0_1] rfl yb ?_; (with_reducible refine (row_Name.calls kj38 a0_1 true _ A48.out).mono ?_); rintro e w' ⟨rfl, ⟨nd, rfl⟩⟩; refine ⟨_, rfl, ?_⟩) | ((with_reducible refine gate_dst (N := 73) rfl ?_); (try (refine gate_guard (by rfl) ?_; dsimp only)); refine Kd.R_lit Kd.string _ 9 ?hg (N := 73) ?hd (xs := ([a0_4] : List ByteArray)) (inner := [.string a0_4]) (ok := fun _ => True) (okp := fun _ => True) ?hr ?hp (fun _ hk => hk) trivial (Below.refl _ _) (Nat.le_refl _) (by simp) ?_; (case hd => rfl); (case hg => rfl); (case hr => first | (go_simp; done) | (go_simp; rfl)); (case hp => exact (Reps.one (show Kd.M Kd.string _ _ _ a0_4 [.string a0_4] from rfl) (Reps.none _ _))); intro v148 w76 ho77 hb hg_ hnew_; clear hg_ hnew_; (first | rw [← Ny147.out] at ho77 | (simp only [Int.reduceToNat] at ho77; rw [← Ny147.out] at ho77)); have HO149 := zM (Kd.R_lower ho77 (below_size mZ)); replace BK133 := zK BK133 hb; replace HB := zM (below_step mZ hb); clear hb ho77; obtain ⟨Ao78, co78, eo78⟩ := Kd.R_slice HO149.out; subst eo78) | (go_at_call 51; (with_reducible refine (pred_texts.calls _ _ y147 false _ ?side1 ?side2 A50.out).mono ?_); (case side1 => exact zC ((Kd.R_reads' HO149.out).2.2)); (case side2 => exact (Kd.R_reads' HO149.out).2.1); rintro e w' ⟨rfl, ⟨nd, rfl⟩⟩))
    go_ret
    exact ⟨by first | rfl | (simp [errW_none, errW_some] <;> rfl) | (simp [*, errW_none, errW_some] <;> rfl), mZ⟩
   replace c49 := Bool.eq_false_iff.mpr c49
   subst c49
   rw [if_neg (show ¬ (false = true) by decide)] at H
   obtain rfl := Option.some.inj H
   have hnb79 := NB133_145.out
   have hnc79 := NB145_133.out
   obtain ⟨hcz80_0, hcz80_1, hcz80_2, hcz80_3, hcz80_4, hcz80_5, hcz80_6, hfz80_0, hfz80_1, hfz80_2, hfz80_3, hfz80_4, hfz80_5, hfz80_6⟩ := cells_7 BK133.out
   go_wp2_with (first | ((with_reducible refine gate_callee (f := 50) rfl ?_); refine goesL_ (some 69) rfl rfl Try.func50 (by kernel_rfl) rfl #[.string a0_1] rfl yb ?_; (with_reducible refine (row_Name.calls kj38 a0_1 false _ A48.out).mono ?_); rintro e w' ⟨rfl, ⟨nd, rfl⟩⟩; refine ⟨_, rfl, ?_⟩))
   go_ret
   exact ⟨by first | rfl | (simp [errW_none, errW_some] <;> rfl) | (simp [*, errW_none, errW_some] <;> rfl), mZ⟩

end Go.Proofs.Ytalpcnomfebdiaa.QPredRules
