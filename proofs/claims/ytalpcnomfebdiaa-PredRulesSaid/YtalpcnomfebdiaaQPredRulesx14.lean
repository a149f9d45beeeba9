-- Written by a program of this session (wip/myprint.py): the machine's side of a law
import Derived.Test.YtalpcnomfebdiaaQPredRulesx0
namespace Go.Proofs.Ytalpcnomfebdiaa.QPredRules
open Go.RowKit Go.Proofs.YtalpcnomfebdiaaW.PrintWords Go.Proofs.YtalpcnomfebdiaaW.PrintLast Go.Proofs.YtalpcnomfebdiaaW.PrintMore
attribute [local go_sem] max2_int min2_int max_two min_two max_three min_three max_four min_four   -- for this text's walks alone
set_option linter.unusedVariables false
set_option linter.unusedSimpArgs false

/-! ### columbariumbook_Within: function 17 -/
def columbariumbook_Within.f (a0 : Int) (a1 : Int) (a2 : Int) : Option (Int) := if (wrap64 ((wrap64 (a2 - a1)) + 1)) = 0 then (none) else (if (Int.tmod a0 (wrap64 ((wrap64 (a2 - a1)) + 1))) < 0 then (some (wrap64 (a1 + (wrap64 ((wrap64 ((wrap64 ((Int.tmod a0 (wrap64 ((wrap64 (a2 - a1)) + 1))) + a2)) - a1)) + 1))))) else (some (wrap64 (a1 + (Int.tmod a0 (wrap64 ((wrap64 (a2 - a1)) + 1)))))))
set_option maxHeartbeats 8000000 in
set_option maxRecDepth 100000 in
theorem columbariumbook_Within.calls (a0 : Int) (a1 : Int) (a2 : Int) (r : Int) (w : World) (h : columbariumbook_Within.f a0 a1 a2 = some r) :
  Calls Try.prog 17 #[.int .i64 a0, .int .i64 a1, .int .i64 a2] w fun e w' => e = .returned (.int .i64 r) ∧ Drawn0 w w' := by
 have H : (if (wrap64 ((wrap64 (a2 - a1)) + 1)) = 0 then (none) else (if (Int.tmod a0 (wrap64 ((wrap64 (a2 - a1)) + 1))) < 0 then (some (wrap64 (a1 + (wrap64 ((wrap64 ((wrap64 ((Int.tmod a0 (wrap64 ((wrap64 (a2 - a1)) + 1))) + a2)) - a1)) + 1))))) else (some (wrap64 (a1 + (Int.tmod a0 (wrap64 ((wrap64 (a2 - a1)) + 1)))))))) = some r := h
 clear h
 by_cases c4 : (wrap64 ((wrap64 (a2 - a1)) + 1)) = 0
 ·rw [if_pos c4] at H
  exact absurd H (by simp)
 rw [if_neg c4] at H
 have c4b0 : ((wrap64 ((wrap64 (a2 - a1)) + 1)) == 0) = false := beq_eq_false_iff_ne.mpr c4
 have c4b1 : ((wrap64 ((wrap64 (a2 - a1)) + 1)) != 0) = true := bne_iff_ne.mpr c4
 by_cases c5 : (Int.tmod a0 (wrap64 ((wrap64 (a2 - a1)) + 1))) < 0
 ·rw [if_pos c5] at H
  have c5b0 : decide ((Int.tmod a0 (wrap64 ((wrap64 (a2 - a1)) + 1))) < 0) = true := decide_eq_true c5
  clear c5
  obtain rfl := Option.some.inj H
  go_enter Try.func17, Try.ntmps17
  go_wp2
  go_ret
  exact ⟨by first | rfl | (simp; done) | (simp [*]; done), by repeat (first | exact Drawn0.refl _ | apply Drawn0.step)⟩
 rw [if_neg c5] at H
 have c5b0 : decide ((Int.tmod a0 (wrap64 ((wrap64 (a2 - a1)) + 1))) < 0) = false := decide_eq_false c5
 clear c5
 obtain rfl := Option.some.inj H
 go_enter Try.func17, Try.ntmps17
 go_wp2
 go_ret
 exact ⟨by first | rfl | (simp; done) | (simp [*]; done), by repeat (first | exact Drawn0.refl _ | apply Drawn0.step)⟩

/-! ### pred_cols: function 36 -/
/-! pred.cols, called with no row: by hand -/
mutual
def pred_cols.g : Nat → ByteArray → List S25 → List ByteArray → Option (List ByteArray)
 | 0, _, _, _ => none
 | k + 1, a1, l6, l => if a1.toList = ([] : List UInt8) then pred_cols.l0 k l6 0 l else (if l.length < 8796093022208 then pred_cols.l0 k l6 0 (l ++ [a1]) else none)
def pred_cols.l0 : Nat → List S25 → Int → List ByteArray → Option (List ByteArray)
 | 0, _, _, _ => none
 | k + 1, K, x, l => if x < (K.length : Int) then (if 0 ≤ x then ((pred_cols.g k (rd_T25 K x).f1 (rd_T25 K x).f6 l).bind fun t => pred_cols.l0 k K (wrap64 (x + 1)) t) else none) else some l
end
theorem pred_cols.mono_l : ∀ k, (∀ a K l, LeO (pred_cols.g k a K l) (pred_cols.g (k + 1) a K l)) ∧ (∀ K x l, LeO (pred_cols.l0 k K x l) (pred_cols.l0 (k + 1) K x l)) := by
 intro k
 induction k with
 | zero => exact ⟨fun a K l => by rw [pred_cols.g]; exact LeO.none _, fun K x l => by rw [pred_cols.l0]; exact LeO.none _⟩
 | succ k ih =>
  obtain ⟨ih0, ih1⟩ := ih
  refine ⟨fun a K l => ?_, fun K x l => ?_⟩
  ·rw [pred_cols.g, pred_cols.g]
   exact LeO.ite (ih1 _ _ _) (LeO.ite (ih1 _ _ _) (LeO.refl _))
  rw [pred_cols.l0, pred_cols.l0]
  exact LeO.ite (LeO.ite (LeO.bind (ih0 _ _ _) (fun _ => ih1 _ _ _)) (LeO.refl _)) (LeO.refl _)
/-- The columns that are named, behind none. -/
def pred_cols.f (k : Nat) (a0_0 : Int) (a0_1 : ByteArray) (a0_2 : Int) (a0_3 : Int) (a0_4 : ByteArray) (l0_5 : List ByteArray) (l0_6 : List S25) (l1 : List ByteArray) : Option (List ByteArray) :=
 match l1 with
 | [] => pred_cols.g k a0_1 l0_6 []
 | _ :: _ => none
theorem pred_cols.mono : ∀ a0 a1 a2 a3 a4 a5 a6 a7 k, LeO (pred_cols.f k a0 a1 a2 a3 a4 a5 a6 a7) (pred_cols.f (k + 1) a0 a1 a2 a3 a4 a5 a6 a7) := by
 intro a0 a1 a2 a3 a4 a5 a6 a7 k
 cases a7 with
 | nil => exact (pred_cols.mono_l k).1 _ _ _
 | cons x r => exact LeO.refl _
theorem pred_cols_c7 {w : World} {g t : Nat} {v0 v1 v2 v3 v4 v5 v6 : Value} (h : w.heap[g]? = some (.cells #[v0, v1, v2, v3, v4, v5, v6] t (0, 0))) : w.cell? ⟨g, 0, none⟩ = some v0 ∧ w.cell? ⟨g, 1, none⟩ = some v1 ∧ w.cell? ⟨g, 2, none⟩ = some v2 ∧ w.cell? ⟨g, 3, none⟩ = some v3 ∧ w.cell? ⟨g, 4, none⟩ = some v4 ∧ w.cell? ⟨g, 5, none⟩ = some v5 ∧ w.cell? ⟨g, 6, none⟩ = some v6 ∧ w.frozen? ⟨g, 0, none⟩ = false ∧ w.frozen? ⟨g, 1, none⟩ = false ∧ w.frozen? ⟨g, 2, none⟩ = false ∧ w.frozen? ⟨g, 3, none⟩ = false ∧ w.frozen? ⟨g, 4, none⟩ = false ∧ w.frozen? ⟨g, 5, none⟩ = false ∧ w.frozen? ⟨g, 6, none⟩ = false :=
 ⟨(blk_cell h 0).trans rfl, (blk_cell h 1).trans rfl, (blk_cell h 2).trans rfl, (blk_cell h 3).trans rfl, (blk_cell h 4).trans rfl, (blk_cell h 5).trans rfl, (blk_cell h 6).trans rfl, blk_frozen h 0, blk_frozen h 1, blk_frozen h 2, blk_frozen h 3, blk_frozen h 4, blk_frozen h 5, blk_frozen h 6⟩
theorem pred_cols_z {w W : World} (h : Below w.heap.size w W := by repeat (first | (with_reducible first | exact Aside0.out (by assumption) | apply below_alloc | apply pw_below_drewN | apply below_drew1 | refine below_set ?_ (Aside0.out (by assumption))) | exact Aside0.out (by assumption))) : Below w.heap.size w W := h
theorem pred_cols_kp {v W : World} {S : Nat → Prop} (h : Kept v W S := by repeat (first | (with_reducible first | exact Aside0.out (by assumption) | apply Kept.alloc | apply Kept.drewN | apply Kept.drew | refine Kept.setCell ?_ (.inr (Aside0.out (by assumption))) _) | exact Aside0.out (by assumption))) : Kept v W S := h
theorem pred_cols_f {g g1 : Nat} {o : Obj} {W0 W : World} (h : W0.heap[g]? = some o) (n : g ≠ g1) (k : W0.heap[g]? = some o → g ≠ g1 → W.heap[g]? = some o := by intro h_ n_; repeat (first | with_reducible exact h_ | refine blk_far ?_ n_ _ | refine blk_drewN ?_ _ | refine blk_drew ?_ | refine blk_alloc ?_ _)) : W.heap[g]? = some o := k h n
theorem pred_cols_r {α : Type} {d : Kd α} {e base : Nat} {ok : Nat → Prop} {v : Value} {xs : List α} {W0 W : World} (h : Kd.R d e W0 base ok v xs) (k : Below W0.heap.size W0 W := by with_reducible repeat (first | exact Below.refl _ _ | apply below_alloc | apply pw_below_drewN | apply below_drew1)) : Kd.R d e W base ok v xs := Kd.R_below h k
theorem pred_cols_k {g : Nat} {o : Obj} {W0 W : World} (h : W0.heap[g]? = some o) (k : Below W0.heap.size W0 W := by with_reducible repeat (first | exact Below.refl _ _ | apply below_alloc | apply pw_below_drewN | apply below_drew1)) : W.heap[g]? = some o := blk_below h k
set_option maxHeartbeats 1600000 in
set_option maxRecDepth 100000 in
theorem pred_cols_G (k : Nat) : ∀ (a0_0 : Int) (a0_1 : ByteArray) (a0_2 : Int) (a0_3 : Int) (a0_4 : ByteArray) (A0_5 : Option Addr) (c0_5 : Nat) (l0_5 : List ByteArray) (A0_6 : Option Addr) (c0_6 : Nat) (l0_6 : List S25) (u : Value) (l1 : List ByteArray) (r : List ByteArray) (w v : World) (hr0_5 : Kd.C Kd.string w A0_5 l0_5.length l0_5) (hc0_5 : l0_5.length ≤ c0_5) (hr0_6 : Kd.C k25 w A0_6 l0_6.length l0_6) (hc0_6 : l0_6.length ≤ c0_6) (hb0 : Below w.heap.size w v) (ho1 : Kd.R Kd.string 9 v w.heap.size (fun _ => True) u l1) (h : pred_cols.g k a0_1 l0_6 l1 = some r),
  Calls Try.prog 36 #[.agg #[.int .i64 a0_0, .string a0_1, .int .i64 a0_2, .int .i64 a0_3, .string a0_4, .slice A0_5 l0_5.length c0_5, .slice A0_6 l0_6.length c0_6], u] v fun e w' => ∃ v_ : Value, e = .returned v_ ∧ Kd.R Kd.string 9 w' w.heap.size (fun k => some k = (u : Value).ownBlock ∨ v.heap.size ≤ k) v_ r ∧ Kept v w' (fun k => some k = (u : Value).ownBlock) ∧ Below w.heap.size w w' := by
 induction k using Nat.strongRecOn with
 | _ k ih =>
 intro a0_0 a0_1 a0_2 a0_3 a0_4 A0_5 c0_5 l0_5 A0_6 c0_6 l0_6 u l1 r w v hr0_5 hc0_5 hr0_6 hc0_6 hb0 ho1 h
 cases k with
 | zero => exact absurd h (by simp [pred_cols.g])
 | succ k =>
 simp only [pred_cols.g] at h
 have hu25 := Try.underlying25
 have HR0_5 := zM hr0_5
 have HC0_5 := zM hc0_5
 clear hr0_5 hc0_5
 have HR0_6 := zM hr0_6
 have HC0_6 := zM hc0_6
 clear hr0_6 hc0_6
 have HB := zM hb0
 have HO : Aside0 (Kd.R Kd.string 9 v w.heap.size (fun k => some k = (u : Value).ownBlock ∨ v.heap.size ≤ k) u l1) := ⟨Kd.R_mono (Kd.R_tight rfl ho1) (fun k hk => .inl hk)⟩
 have HKP := zM (Kept.refl v (fun k => some k = (u : Value).ownBlock))
 clear hb0 ho1
 have HC3 := zM h
 clear h
 go_enter Try.func36, Try.ntmps36
 go_upto_if 9 with (first | ((with_reducible refine gate_dst (N := 2) rfl ?_); refine box_event ?hg (N := 2) ?hd (cs := #[.int .i64 a0_0, .string a0_1, .int .i64 a0_2, .int .i64 a0_3, .string a0_4, .slice A0_5 l0_5.length c0_5, .slice A0_6 l0_6.length c0_6]) (t := 25) ?hr ?_; (case hd => rfl); (case hg => rfl); (case hr => first | (go_simp; done) | (go_simp; rfl)); intro gb1 hg w4 hbox hb; have BK1 := zM hbox; have GW1 := zM (by rw [hg]; exact (below_size pred_cols_z) : w.heap.size ≤ gb1); have GV1 := zM (by rw [hg]; exact (pred_cols_kp).1 : v.heap.size ≤ gb1); replace HO := zM (Kd.R_below (pred_cols_r HO.out) hb); replace HKP := zM (Kept.below pred_cols_kp hb); replace HB := zM (below_step pred_cols_z hb); clear hb hbox hg; obtain ⟨hcza_0, hcza_1, hcza_2, hcza_3, hcza_4, hcza_5, hcza_6, hfza_0, hfza_1, hfza_2, hfza_3, hfza_4, hfza_5, hfza_6⟩ := pred_cols_c7 BK1.out))
 (try simp only [Act.put, List.setIfInBounds_toArray, List.set_cons_zero, List.set_cons_succ])
 go_cut [1] (fun v1 wc => ∃ (kq : Nat) (x1 : List ByteArray), Aside0 (pred_cols.l0 kq l0_6 0 x1 = some r) ∧ Aside0 (kq ≤ k) ∧ Aside0 (Kd.R Kd.string 9 wc w.heap.size (fun k => some k = (u : Value).ownBlock ∨ v.heap.size ≤ k) v1 x1) ∧ Aside0 (Kept v wc (fun k => some k = (u : Value).ownBlock)) ∧ Aside0 (wc.heap[gb1]? = some (.cells #[.int .i64 a0_0, .string a0_1, .int .i64 a0_2, .int .i64 a0_3, .string a0_4, .slice A0_5 l0_5.length c0_5, .slice A0_6 l0_6.length c0_6] 25 (0, 0))) ∧ Aside0 (Below w.heap.size w wc))
 case first =>
  have H := HC3.out
  clear HC3
  by_cases c8 : a0_1.toList = ([] : List UInt8)
  ·rw [if_pos c8] at H
   have c8b0 : a0_1.toList.isEmpty = true := by rw [c8]; rfl
   simp only [c8b0, Bool.not_true]
   go_wp2
   go_meet
   case rel => exact ⟨_, l1, ⟨H⟩, ⟨Nat.le_refl _⟩, ⟨pred_cols_r HO.out⟩, ⟨pred_cols_kp⟩, ⟨pred_cols_k BK1.out⟩, ⟨pred_cols_z⟩⟩
  rw [if_neg c8] at H
  have c8b0 : a0_1.toList.isEmpty = false := List.isEmpty_eq_false_iff.mpr c8
  simp only [c8b0, Bool.not_false]
  by_cases c9 : l1.length < 8796093022208
  ·rw [if_pos c9] at H
   obtain ⟨y1, hy1⟩ : ∃ y_, y_ = l1 ++ [a0_1] := ⟨_, rfl⟩
   rw [← hy1] at H
   have Ny1 := zM hy1
   clear hy1
   have LM9 := zM c9
   clear c9
   go_wp2_with (first | ((with_reducible refine gate_builtin (b := .append) (xs := #[.tmp 10, .tmp 13]) rfl ?_); at_builtin; refine Kd.R_append Kd.string (w0 := w) w.heap.size rfl (.tmp 10) (.tmp 13) 22 9 (.string ⟨#[]⟩) 16 rfl Try.underlying22 info9 rfl (by decide) (by omega) u l1 a0_1 [.string a0_1] (fun k => some k = (u : Value).ownBlock ∨ v.heap.size ≤ k) (fun _ => False) rfl rfl ?aP (fun _ hk => hk.elim) ?aF ?aO ?aB ?aS ?aL ?_; (case aP => exact rfl); (case aB => exact pred_cols_z); (case aF => exact (fun k hk => .inr (Nat.le_trans (pred_cols_kp).1 hk))); (case aO => exact (pred_cols_r HO.out)); (case aS => exact (below_size pred_cols_z)); (case aL => have := LM9.out; omega); intro v105 w36 ho hb hg hat; rw [← Ny1.out] at ho; replace BK1 := zM (blk_grown (pred_cols_k BK1.out) hg (Kd.R_ne HO.out BK1.out (by decide))); replace HKP := zM (Kept.of_grown hg pred_cols_kp (fun k e_ => HO.out.1 k e_)); replace HB := zM (hb); have HO2 := zM (ho); clear ho hb hg hat))
   go_meet
   case rel => exact ⟨_, y1, ⟨H⟩, ⟨Nat.le_refl _⟩, ⟨pred_cols_r HO2.out⟩, ⟨pred_cols_kp⟩, ⟨pred_cols_k BK1.out⟩, ⟨pred_cols_z⟩⟩
  rw [if_neg c9] at H
  exact absurd H (by simp)
 clear HC3
 try clear HO
 try clear BK1
 try clear HB
 try clear HKP
 try clear hcza_0
 try clear hcza_1
 try clear hcza_2
 try clear hcza_3
 try clear hcza_4
 try clear hcza_5
 try clear hcza_6
 try clear hfza_0
 try clear hfza_1
 try clear hfza_2
 try clear hfza_3
 try clear hfza_4
 try clear hfza_5
 try clear hfza_6
 obtain ⟨kq, x1, HA, HJ, HO, HKP, BK1, HB⟩ := hcut
 obtain ⟨hczb_0, hczb_1, hczb_2, hczb_3, hczb_4, hczb_5, hczb_6, hfzb_0, hfzb_1, hfzb_2, hfzb_3, hfzb_4, hfzb_5, hfzb_6⟩ := pred_cols_c7 BK1.out
 go_wp2
 try simp only [Act.put, List.setIfInBounds_toArray, List.set_cons_zero, List.set_cons_succ]
 go_loopg [1, 18] kq (fun q v1 v18 w' => ∃ (x1 : List ByteArray) (x18 : Int), v18 = .int .i64 x18 ∧ Aside0 (pred_cols.l0 q l0_6 x18 x1 = some r) ∧ Aside0 (q ≤ kq) ∧ Aside0 (Kd.R Kd.string 9 w' w.heap.size (fun k => some k = (u : Value).ownBlock ∨ v.heap.size ≤ k) v1 x1) ∧ Aside0 (Kept v w' (fun k => some k = (u : Value).ownBlock)) ∧ Aside0 (w'.heap[gb1]? = some (.cells #[.int .i64 a0_0, .string a0_1, .int .i64 a0_2, .int .i64 a0_3, .string a0_4, .slice A0_5 l0_5.length c0_5, .slice A0_6 l0_6.length c0_6] 25 (0, 0))) ∧ Aside0 (Below w.heap.size w w'))
 case atStart => exact ⟨x1, 0, ya, HA, ⟨Nat.le_refl _⟩, ⟨pred_cols_r HO.out⟩, ⟨pred_cols_kp⟩, ⟨pred_cols_k BK1.out⟩, ⟨pred_cols_z⟩⟩
 case round =>
  clear HA
  try clear HO
  try clear BK1
  try clear HB
  try clear HKP
  try clear hczb_0
  try clear hczb_1
  try clear hczb_2
  try clear hczb_3
  try clear hczb_4
  try clear hczb_5
  try clear hczb_6
  try clear hfzb_0
  try clear hfzb_1
  try clear hfzb_2
  try clear hfzb_3
  try clear hfzb_4
  try clear hfzb_5
  try clear hfzb_6
  try clear BK1
  obtain ⟨x1, x18, rfl, HA, HK, HO, HKP, BK1, HB⟩ := hrel
  cases gk with
  | zero => exact absurd HA.out (by simp [pred_cols.l0])
  | succ k1 =>
  have H := HA.out
  clear HA
  simp only [pred_cols.l0] at H
  by_cases c10 : x18 < (l0_6.length : Int)
  ·rw [if_pos c10] at H
   have c10b0 : decide (x18 < (l0_6.length : Int)) = true := decide_eq_true c10
   by_cases c11 : 0 ≤ x18
   ·rw [if_pos c11] at H
    have c11b0 : decide (0 ≤ x18) = true := decide_eq_true c11
    replace H := Option.bind_eq_some_iff.mp H
    obtain ⟨t, A13_, H⟩ := H
    have A13 := zM A13_
    clear A13_
    have H' := Aside0.mk H
    clear H
    obtain ⟨ad, A5, c5, A6, c6, e176, hx0, hx1, hx2, hx3, hx4, hx5, hx6, hl5, hi5, hl6, hi6⟩ := at_T25 HR0_6.out x18 c11 c10
    cases e176
    replace hx0 := zH HB hx0
    replace hx1 := zH HB hx1
    replace hx2 := zH HB hx2
    replace hx3 := zH HB hx3
    replace hx4 := zH HB hx4
    replace hx5 := zH HB hx5
    replace hx6 := zH HB hx6
    have HR5 := zM hi5
    have HC5 := zM hl5
    have HR6 := zM hi6
    have HC6 := zM hl6
    clear hi5 hl5 hi6 hl6
    replace c11 := eq_true c11
    replace c10 := eq_true c10
    go_wp2_with (first | ((with_reducible refine gate_dst (N := 6) rfl ?_); refine box_event ?hg (N := 6) ?hd (cs := #[.int .i64 0, .string (⟨#[]⟩ : ByteArray), .int .i64 0, .int .i64 0, .string (⟨#[]⟩ : ByteArray), .slice none 0 0, .slice none 0 0]) (t := 25) ?hr ?_; (case hd => rfl); (case hg => rfl); (case hr => first | (go_simp; done) | (go_simp; rfl)); intro gb2 hg w8 hbox hb; have BK2 := zM hbox; have GW2 := zM (by rw [hg]; exact (below_size pred_cols_z) : w.heap.size ≤ gb2); have GV2 := zM (by rw [hg]; exact (pred_cols_kp).1 : v.heap.size ≤ gb2); replace HO := zM (Kd.R_below (pred_cols_r HO.out) hb); replace HKP := zM (Kept.below pred_cols_kp hb); replace HB := zM (below_step pred_cols_z hb); have NB := zM (by rw [hg]; exact Nat.ne_of_lt (blk_lt (pred_cols_k BK1.out)) : gb1 ≠ gb2); have NC := zM (by rw [hg]; exact Nat.ne_of_gt (blk_lt (pred_cols_k BK1.out)) : gb2 ≠ gb1); replace BK1 := zM (blk_below (pred_cols_k BK1.out) hb); clear hb hbox hg; have hnb9 := NC.out; have hnc9 := NB.out; obtain ⟨hczc_0, hczc_1, hczc_2, hczc_3, hczc_4, hczc_5, hczc_6, hfzc_0, hfzc_1, hfzc_2, hfzc_3, hfzc_4, hfzc_5, hfzc_6⟩ := pred_cols_c7 BK2.out) | ((with_reducible refine gate_callee (f := 36) rfl ?_); refine goesL_ (some 24) rfl rfl Try.func36 (by kernel_rfl) rfl #[.agg #[.int .i64 ((rd_T25 l0_6 x18).f0), .string ((rd_T25 l0_6 x18).f1), .int .i64 ((rd_T25 l0_6 x18).f2), .int .i64 ((rd_T25 l0_6 x18).f3), .string ((rd_T25 l0_6 x18).f4), .slice A5 ((rd_T25 l0_6 x18).f5).length c5, .slice A6 ((rd_T25 l0_6 x18).f6).length c6], u1] rfl yb ?_; (with_reducible refine (ih k1 (by have := HK.out; have := HJ.out; omega) ((rd_T25 l0_6 x18).f0) ((rd_T25 l0_6 x18).f1) ((rd_T25 l0_6 x18).f2) ((rd_T25 l0_6 x18).f3) ((rd_T25 l0_6 x18).f4) _ _ ((rd_T25 l0_6 x18).f5) _ _ ((rd_T25 l0_6 x18).f6) u1 x1 t w _ ?side1 ?side2 ?side3 ?side4 ?side5 ?side6 A13.out).mono ?_); (case side1 => first | exact HR5.out | exact Kd.V_mono HR5.out (fun k_ hk_ => by grind)); (case side2 => first | exact HC5.out | exact Kd.V_mono HC5.out (fun k_ hk_ => by grind)); (case side3 => first | exact HR6.out | exact Kd.V_mono HR6.out (fun k_ hk_ => by grind)); (case side4 => first | exact HC6.out | exact Kd.V_mono HC6.out (fun k_ hk_ => by grind)); (case side5 => exact pred_cols_z); (case side6 => have h_ := Kd.R_types HO.out BK2.out (by decide); refine Kd.R_mono (ok := fun k => (fun k => some k = (u : Value).ownBlock ∨ v.heap.size ≤ k) k ∧ k ≠ gb2) ?_ (fun _ _ => trivial); repeat (first | with_reducible exact h_ | refine Kd.R_far ?_ (fun _ hk => hk.2) _ | apply Kd.R_alloc | apply Kd.R_drewN | apply Kd.R_drew)); rintro e w11 ⟨v24, rfl, ho, hkp, hb⟩; refine ⟨_, rfl, ?_⟩; replace BK1 := zM (blk_kept (pred_cols_f BK1.out NB.out) hkp (fun e_ => (Kd.R_ne HO.out BK1.out (by decide)) e_)); have HO3 : Aside0 (Kd.R Kd.string 9 w11 w.heap.size (fun k => some k = (u : Value).ownBlock ∨ v.heap.size ≤ k) v24 t) := ⟨Kd.R_mono ho (fun k hk => hk.elim (fun e_ => HO.out.1 k e_.symm) (fun hn => .inr (Nat.le_trans (pred_cols_kp).1 hn)))⟩; replace HKP := zM (Kept.then_ pred_cols_kp hkp (fun k hs => HO.out.1 k hs.symm)); clear HO; have HO := HO3; clear HO3; replace HB := zM hb; (try clear hb); (try clear hkp); (try clear ho)))
    go_roundg k1
    case measure => have := HK.out; omega
    case rel => exact ⟨t, (wrap64 (x18 + 1)), ya, H', ⟨by have := HK.out; omega⟩, ⟨pred_cols_r HO.out⟩, ⟨pred_cols_kp⟩, ⟨pred_cols_k BK1.out⟩, ⟨pred_cols_z⟩⟩
   rw [if_neg c11] at H
   exact absurd H (by simp)
  rw [if_neg c10] at H
  have c10b0 : decide (x18 < (l0_6.length : Int)) = false := decide_eq_false c10
  obtain rfl := Option.some.inj H
  go_wp2
  go_ret
  exact ⟨_, by first | rfl | (simp [errW_none, errW_some] <;> rfl) | (simp [*, errW_none, errW_some] <;> rfl), pred_cols_r HO.out, pred_cols_kp, pred_cols_z⟩
theorem pred_cols.calls (k : Nat) (a0_0 : Int) (a0_1 : ByteArray) (a0_2 : Int) (a0_3 : Int) (a0_4 : ByteArray) (A0_5 : Option Addr) (c0_5 : Nat) (l0_5 : List ByteArray) (A0_6 : Option Addr) (c0_6 : Nat) (l0_6 : List S25) (A1 : Option Addr) (c1 : Nat) (l1 : List ByteArray) (r : List ByteArray) (w : World) (hr0_5 : Kd.C Kd.string w A0_5 l0_5.length l0_5) (hc0_5 : l0_5.length ≤ c0_5) (hr0_6 : Kd.C k25 w A0_6 l0_6.length l0_6) (hc0_6 : l0_6.length ≤ c0_6) (hr1 : match A1 with | none => Kd.C Kd.string w none l1.length l1 | some _ => False) (hc1 : c1 ≤ l1.length) (h : pred_cols.f k a0_0 a0_1 a0_2 a0_3 a0_4 l0_5 l0_6 l1 = some r) :
  Calls Try.prog 36 #[.agg #[.int .i64 a0_0, .string a0_1, .int .i64 a0_2, .int .i64 a0_3, .string a0_4, .slice A0_5 l0_5.length c0_5, .slice A0_6 l0_6.length c0_6], .slice A1 l1.length c1] w fun e w' => ∃ v_ : Value, e = .returned v_ ∧ Kd.R Kd.string 9 w' w.heap.size (fun _ => True) v_ r ∧ Below w.heap.size w w' := by
 cases l1 with
 | cons x q => exact absurd h (by simp [pred_cols.f])
 | nil =>
  obtain rfl : A1 = none := by cases A1 with | none => rfl | some a => exact hr1.elim
  obtain rfl : c1 = 0 := Nat.le_zero.1 hc1
  refine (pred_cols_G k a0_0 a0_1 a0_2 a0_3 a0_4 A0_5 c0_5 l0_5 A0_6 c0_6 l0_6 (.slice none 0 0) [] r w w hr0_5 hc0_5 hr0_6 hc0_6 (Below.refl _ _) (Kd.R_nil _ _ _ _ _) h).mono fun e w' hp => ?_
  obtain ⟨v_, he, ho, _, hb⟩ := hp
  exact ⟨v_, he, Kd.R_mono ho (fun _ _ => trivial), hb⟩

/-! ### slices_Sort_string_string: function 37 -/
/-! slices.Sort at []string: by the shelf's contract -/
/-- A text laid into a rising list, once. -/
def dict_put (s : ByteArray) : List ByteArray → List ByteArray
 | [] => [s]
 | x :: r => if Op.bytesLess x.toList s.toList = true then x :: dict_put s r else if x.toList = s.toList then x :: r else s :: x :: r
/-- The texts of a list in rising order, each once. -/
def dict_set (l : List ByteArray) : List ByteArray := l.foldl (fun d s => dict_put s d) []
namespace DictSort
/-- The same over lists of bytes. -/
def put (s : List UInt8) : List (List UInt8) → List (List UInt8)
 | [] => [s]
 | x :: r => if x < s then x :: put s r else if x = s then x :: r else s :: x :: r
theorem put_map (s : ByteArray) (l : List ByteArray) : (dict_put s l).map (·.data.toList) = put s.data.toList (l.map (·.data.toList)) := by
 induction l with
 | nil => rfl
 | cons x r ih =>
  rw [List.map_cons, dict_put, put, Go.Proofs.bytesLess_eq]
  simp only [ByteArray.toList_eq, decide_eq_true_eq]
  by_cases h : x.data.toList < s.data.toList
  ·rw [if_pos h, if_pos h, List.map_cons, ih]
  rw [if_neg h, if_neg h]
  by_cases h2 : x.data.toList = s.data.toList
  ·rw [if_pos h2, if_pos h2, List.map_cons]
  rw [if_neg h2, if_neg h2, List.map_cons, List.map_cons]
theorem mem_put (s y : List UInt8) (l : List (List UInt8)) : y ∈ put s l ↔ y = s ∨ y ∈ l := by
 induction l with
 | nil => simp [put]
 | cons x r ih =>
  rw [put]
  split
  ·rw [List.mem_cons, ih, List.mem_cons]
   constructor
   ·rintro (h | h | h)
    ·exact .inr (.inl h)
    ·exact .inl h
    exact .inr (.inr h)
   rintro (h | h | h)
   ·exact .inr (.inl h)
   ·exact .inl h
   exact .inr (.inr h)
  split
  ·rename_i h
   subst h
   simp
  simp
theorem lt_of {a b : List UInt8} (h1 : ¬ a < b) (h2 : a ≠ b) : b < a := by
 rcases Std.lt_trichotomy a b with h | h | h
 ·exact absurd h h1
 ·exact absurd h h2
 exact h
theorem put_rises (s : List UInt8) : ∀ l : List (List UInt8), l.Pairwise (· < ·) → (put s l).Pairwise (· < ·)
 | [], _ => List.pairwise_singleton _ _
 | x :: r, h => by
  obtain ⟨h1, h2⟩ := List.pairwise_cons.1 h
  rw [put]
  split
  ·rename_i hx
   refine List.pairwise_cons.2 ⟨fun y hy => ?_, put_rises s r h2⟩
   rcases (mem_put s y r).1 hy with rfl | hy
   ·exact hx
   exact h1 y hy
  split
  ·exact h
  rename_i hx hne
  have hs := lt_of hx hne
  exact List.pairwise_cons.2 ⟨fun y hy => (List.mem_cons.1 hy).elim (fun e => e ▸ hs) (fun hy => List.lt_trans hs (h1 y hy)), h⟩
/-- Of two rising lists of the same texts one is the other. -/
theorem rising_eq : ∀ {a b : List (List UInt8)}, a.Pairwise (· < ·) → b.Pairwise (· < ·) → (∀ x, x ∈ a ↔ x ∈ b) → a = b
 | [], [], _, _, _ => rfl
 | [], y :: s, _, _, h => absurd ((h y).2 (List.mem_cons_self ..)) (List.not_mem_nil)
 | x :: r, [], _, _, h => absurd ((h x).1 (List.mem_cons_self ..)) (List.not_mem_nil)
 | x :: r, y :: s, ha, hb, h => by
  obtain ⟨a1, a2⟩ := List.pairwise_cons.1 ha
  obtain ⟨b1, b2⟩ := List.pairwise_cons.1 hb
  have exy : x = y := by
   rcases List.mem_cons.1 ((h x).1 (List.mem_cons_self ..)) with e | hx
   ·exact e
   rcases List.mem_cons.1 ((h y).2 (List.mem_cons_self ..)) with e | hy
   ·exact e.symm
   exact absurd (List.lt_trans (a1 y hy) (b1 x hx)) (List.lt_irrefl _)
  subst exy
  congr 1
  refine rising_eq a2 b2 fun z => ⟨fun hz => ?_, fun hz => ?_⟩
  ·rcases List.mem_cons.1 ((h z).1 (List.mem_cons_of_mem _ hz)) with e | h2
   ·subst e
    exact absurd (a1 _ hz) (List.lt_irrefl _)
   exact h2
  rcases List.mem_cons.1 ((h z).2 (List.mem_cons_of_mem _ hz)) with e | h2
  ·subst e
   exact absurd (b1 _ hz) (List.lt_irrefl _)
  exact h2
theorem le_lt {a b : List UInt8} (h : a ≤ b) (hne : a ≠ b) : a < b := by
 rcases Std.lt_trichotomy a b with h1 | h1 | h1
 ·exact h1
 ·exact absurd h1 hne
 exact absurd h1 h
theorem le_lt_trans {a b c : List UInt8} (h : a ≤ b) (h2 : b < c) : a < c := by
 by_cases e : a = b
 ·exact e ▸ h2
 exact List.lt_trans (le_lt h e) h2
theorem compact_upto (d : Array (List UInt8)) (hs : ∀ i j, i ≤ j → j < d.size → d[i]! ≤ d[j]!) : ∀ m, m ≤ d.size → (Lib.compactUpTo d m).Pairwise (· < ·) ∧ ∀ x, x ∈ Lib.compactUpTo d m ↔ ∃ j, j < m ∧ d[j]! = x
 | 0, _ => by simp [Lib.compactUpTo]
 | m + 1, hm => by
  obtain ⟨h1, h2⟩ := compact_upto d hs m (by omega)
  rw [Lib.compactUpTo_succ]
  by_cases hk : Lib.keeps d m = true
  ·rw [if_pos hk]
   have hk' : m = 0 ∨ d[m]! ≠ d[m - 1]! := of_decide_eq_true hk
   refine ⟨List.pairwise_append.2 ⟨h1, List.pairwise_singleton _ _, fun x hx y hy => ?_⟩, fun x => ?_⟩
   ·rw [List.mem_singleton.1 hy]
    obtain ⟨j, hj, rfl⟩ := (h2 x).1 hx
    have hne : d[m]! ≠ d[m - 1]! := hk'.resolve_left (by omega)
    exact le_lt_trans (hs j (m - 1) (by omega) (by omega)) (le_lt (hs (m - 1) m (by omega) (by omega)) (fun e => hne e.symm))
   rw [List.mem_append, h2, List.mem_singleton]
   constructor
   ·rintro (⟨j, hj, e⟩ | e)
    ·exact ⟨j, by omega, e⟩
    exact ⟨m, by omega, e.symm⟩
   rintro ⟨j, hj, e⟩
   by_cases h : j = m
   ·subst h
    exact .inr e.symm
   exact .inl ⟨j, by omega, e⟩
  rw [if_neg hk, List.append_nil]
  have hk' : m ≠ 0 ∧ d[m]! = d[m - 1]! := by
   have h3 : ¬ (m = 0 ∨ d[m]! ≠ d[m - 1]!) := fun h => hk (decide_eq_true h)
   exact ⟨fun h => h3 (.inl h), Classical.byContradiction fun h => h3 (.inr h)⟩
  refine ⟨h1, fun x => ?_⟩
  rw [h2]
  constructor
  ·rintro ⟨j, hj, e⟩
   exact ⟨j, by omega, e⟩
  rintro ⟨j, hj, e⟩
  by_cases h : j = m
  ·subst h
   exact ⟨j - 1, by omega, hk'.2.symm.trans e⟩
  exact ⟨j, by omega, e⟩
theorem compact_sorted (zs : List (List UInt8)) (hs : zs.Pairwise (· ≤ ·)) : (Lib.compact zs).Pairwise (· < ·) ∧ ∀ x, x ∈ Lib.compact zs ↔ x ∈ zs := by
 have hg : ∀ i, (hi : i < zs.length) → zs.toArray[i]! = zs[i] := fun i hi => by simp [getElem!_pos, hi]
 obtain ⟨h1, h2⟩ := compact_upto zs.toArray (fun i j hij hj => by
  have hj : j < zs.length := by simpa using hj
  rw [hg i (by omega), hg j hj]
  by_cases e : i = j
  ·subst e
   exact List.le_refl _
  exact List.pairwise_iff_getElem.1 hs i j (by omega) hj (by omega)) zs.length (by simp)
 refine ⟨h1, fun x => (h2 x).trans ⟨?_, fun hx => ?_⟩⟩
 ·rintro ⟨j, hj, e⟩
  rw [← e, hg j hj]
  exact List.getElem_mem _
 obtain ⟨j, hj, e⟩ := List.getElem_of_mem hx
 exact ⟨j, hj, (hg j hj).trans e⟩
theorem fold_rises (l : List (List UInt8)) : ∀ d : List (List UInt8), d.Pairwise (· < ·) → (l.foldl (fun d s => put s d) d).Pairwise (· < ·) ∧ ∀ x, x ∈ l.foldl (fun d s => put s d) d ↔ x ∈ d ∨ x ∈ l := by
 induction l with
 | nil => exact fun d h => ⟨h, fun x => by simp⟩
 | cons s r ih =>
  intro d h
  obtain ⟨h1, h2⟩ := ih (put s d) (put_rises s d h)
  refine ⟨h1, fun x => ?_⟩
  rw [List.foldl_cons, h2, mem_put, List.mem_cons]
  constructor
  ·rintro ((h | h) | h)
   ·exact .inr (.inl h)
   ·exact .inl h
   exact .inr (.inr h)
  rintro (h | h | h)
  ·exact .inl (.inr h)
  ·exact .inl (.inl h)
  exact .inr h
theorem fold_map (l : List ByteArray) : ∀ d : List ByteArray, (l.foldl (fun d s => dict_put s d) d).map (·.data.toList) = (l.map (·.data.toList)).foldl (fun d s => put s d) (d.map (·.data.toList)) := by
 induction l with
 | nil => exact fun d => rfl
 | cons s r ih =>
  intro d
  rw [List.foldl_cons, ih, put_map, List.map_cons, List.foldl_cons]
/-- What the library's Sort and Compact make of a list. -/
theorem compact_sort (l : List ByteArray) : Lib.compact ((l.map (·.data.toList)).mergeSort fun x y => decide (x ≤ y)) = (dict_set l).map (·.data.toList) := by
 have hsort : ((l.map (·.data.toList)).mergeSort fun x y => decide (x ≤ y)).Pairwise (· ≤ ·) := by
  have := List.pairwise_mergeSort (le := fun x y : List UInt8 => decide (x ≤ y)) (fun a b c h1 h2 => by simp only [decide_eq_true_eq] at *; exact List.le_trans h1 h2) (fun a b => by simp only [Bool.or_eq_true, decide_eq_true_eq]; exact List.le_total a b) (l.map (·.data.toList))
  exact this.imp (fun h => by simpa using h)
 obtain ⟨h1, h2⟩ := compact_sorted _ hsort
 obtain ⟨h3, h4⟩ := fold_rises (l.map (·.data.toList)) [] List.Pairwise.nil
 rw [dict_set, fold_map, List.map_nil]
 exact rising_eq h1 h3 fun x => by rw [h2, h4, List.mem_mergeSort]; simp
end DictSort
/-- A text of bytes. -/
def dict_str (b : List UInt8) : ByteArray := ⟨b.toArray⟩
theorem dict_str_data (s : ByteArray) : dict_str s.data.toList = s := rfl
theorem dict_str_enc (ss : List (List UInt8)) : (ss.map dict_str).map Value.string = ss.map Go.Proofs.encStr := by
 rw [List.map_map]
 rfl
theorem dict_enc_str (l : List ByteArray) : l.map Value.string = (l.map (·.data.toList)).map Go.Proofs.encStr := by
 rw [List.map_map]
 rfl
theorem slices_Sort_R (P0_ : Nat → Prop) (base : Nat) (v : Value) (l : List ByteArray) (w : World) (ho : Kd.R Kd.string 9 w base P0_ v l) (hl : l.length < 4611686018427387904) :
  Calls Try.prog 37 #[v] w fun e w' => e = .returned (.tuple #[]) ∧ Kd.R Kd.string 9 w' base P0_ v (((l.map (·.data.toList)).mergeSort fun x y => decide (x ≤ y)).map dict_str) ∧ w.grownBy w' v.ownBlock := by
 have hown := Kd.own_of_R ho
 rcases hown.2 with ⟨rfl, h0⟩ | ⟨g, cap, cur, rfl, hbase, hb, h1, h2, h3, h4⟩
 ·have : l = [] := List.eq_nil_of_length_eq_zero h0
  subst this
  refine (Try.slices_Sort_string_none none 0 w).mono ?_
  rintro e w' ⟨rfl, rfl⟩
  exact ⟨rfl, by rw [List.map_nil, List.mergeSort_nil, List.map_nil]; exact ho, ⟨rfl, rfl, rfl, Nat.le_refl _, fun k _ _ => rfl⟩⟩
 have hH := holds_of_block (ss := l.map (·.data.toList)) hb (by rw [List.length_map, ← dict_enc_str]; rw [Nat.mul_one] at h4; exact h4)
 have hg : g < w.heap.size := (Array.getElem?_eq_some_iff.1 hb).1
 have hc := Try.slices_Sort_string g 0 cap (l.map (·.data.toList)) w hH hg (by rw [List.length_map]; exact hl)
 rw [List.length_map] at hc
 refine hc.mono ?_
 rintro e w' ⟨rfl, n, os, rfl⟩
 have how := ownsRow_sorted (base := base) (n := n) (os := os) (ss := l.map (·.data.toList)) (ts := (l.map (·.data.toList)).mergeSort fun x y => decide (x ≤ y)) (List.length_mergeSort _) hbase hb (by rw [List.length_map]; exact h1) h2 h3
 refine ⟨rfl, Kd.R_of_own ?_ ho.1, grownBy_sorted _⟩
 rw [List.length_map] at how
 rw [show (((l.map (·.data.toList)).mergeSort fun x y => decide (x ≤ y)).map dict_str).length = l.length from by rw [List.length_map, List.length_mergeSort, List.length_map]]
 unfold encs
 rw [dict_str_enc]
 exact how
/-- The texts in order. -/
def sortL (l : List ByteArray) : List ByteArray := ((l.map (·.data.toList)).mergeSort fun x y => decide (x ≤ y)).map dict_str
theorem kept_of_grown {w w' : World} {v : Value} {P : Nat → Prop} (hg : w.grownBy w' v.ownBlock) (hP : ∀ k, v.ownBlock = some k → P k) : Kept w w' P :=
 ⟨hg.size, fun i hi hn => hg.block i hi (fun e => hn (hP i e.symm))⟩
def slices_Sort_string_string.f (l0 : List ByteArray) : Option (List ByteArray) := if l0.length < 8796093022208 then (some (sortL l0)) else none
theorem slices_Sort_string_string.calls (P0_ : Nat → Prop) (u9000_ : Value) (l0 : List ByteArray) (r1 : List ByteArray) (w0 w : World) (hB : Below w0.heap.size w0 w) (ho0 : Kd.R Kd.string 9 w w0.heap.size P0_ u9000_ l0) (h : slices_Sort_string_string.f l0 = some r1) :
  Calls Try.prog 37 #[u9000_] w fun e w' => e = .returned (.tuple #[]) ∧ Kd.R Kd.string 9 w' w0.heap.size (fun k_ => (P0_ k_ ∨ w.heap.size ≤ k_)) u9000_ r1 ∧ Below w0.heap.size w0 w' ∧ Kept w w' (fun k_ => P0_ k_) := by
 unfold slices_Sort_string_string.f at h
 by_cases hl : l0.length < 8796093022208
 ·rw [if_pos hl] at h
  obtain rfl := Option.some.inj h
  refine (slices_Sort_R _ _ _ l0 _ ho0 (by omega)).mono ?_
  rintro e w' ⟨rfl, ho, hg⟩
  exact ⟨rfl, Kd.R_mono ho (fun k hk => .inl hk), Below.grown hB hg (below_size hB) (Kd.R_base ho0), kept_of_grown hg (fun k e => ho0.1 k e)⟩
 rw [if_neg hl] at h
 cases h

/-! ### slices_Compact_string_string: function 38 -/
/-! slices.Compact at []string: by the shelf's contract -/
theorem slices_Compact_R (P0_ : Nat → Prop) (base : Nat) (A : Option Addr) (n c : Nat) (zs : List (List UInt8)) (w : World) (ho : Kd.R Kd.string 9 w base P0_ (.slice A n c) (zs.map dict_str)) (hl : zs.length ≤ 9223372036854775807) :
  Calls Try.prog 38 #[.slice A n c] w fun e w' => e = .returned (.slice A (Lib.compact zs).length c) ∧ Kd.R Kd.string 9 w' base P0_ (.slice A (Lib.compact zs).length c) ((Lib.compact zs).map dict_str) ∧ w.grownBy w' (Value.slice A n c).ownBlock := by
 have hown := Kd.own_of_R ho
 have hn : n = zs.length := by
  have := (Kd.R_reads' ho).1
  rw [List.length_map] at this
  exact this
 subst hn
 rcases hown.2 with ⟨e0, h0⟩ | ⟨g, cap, cur, e0, hbase, hb, h1, h2, h3, h4⟩
 ·rw [List.length_map] at h0
  have : zs = [] := List.eq_nil_of_length_eq_zero h0
  subst this
  refine (Try.slices_Compact_string_empty A c w).mono ?_
  rintro e w' ⟨rfl, rfl⟩
  exact ⟨rfl, ho, ⟨rfl, rfl, rfl, Nat.le_refl _, fun k _ _ => rfl⟩⟩
 injection e0 with e1 _ e2
 subst e1
 subst e2
 rw [List.length_map] at h1 h4
 have hH := holds_of_block (ss := zs) hb (by rw [← dict_str_enc]; rw [Nat.mul_one] at h4; exact h4)
 refine (Try.slices_Compact_string g 0 c zs w hH hl h1).mono ?_
 rintro e w' ⟨rfl, q, rfl⟩
 have hle := Lib.compact_length_le zs
 have how := Lib.ownsRow_putRow (enc := Go.Proofs.encStr) (zs := zs) (q := q) (k := (Lib.compact zs).length) (ys := Lib.compact zs ++ List.replicate (zs.length - (Lib.compact zs).length) []) (by have h := hown; unfold encs at h; rw [dict_str_enc, List.length_map] at h; exact h) (by simp; omega) hle
 rw [List.take_left' rfl, ← dict_str_enc] at how
 refine ⟨rfl, Kd.R_of_own (by rw [List.length_map]; exact how) ho.1, ?_⟩
 exact grownBy_sorted (os := #[]) _
/-- The texts, each once where it stands twice. -/
def compactL (l : List ByteArray) : List ByteArray := (Lib.compact (l.map (·.data.toList))).map dict_str
theorem compact_sortL (l : List ByteArray) : compactL (sortL l) = dict_set l := by
 have e : (sortL l).map (·.data.toList) = (l.map (·.data.toList)).mergeSort fun x y => decide (x ≤ y) := by
  rw [sortL, List.map_map]
  exact List.map_id _
 rw [compactL, e, DictSort.compact_sort, List.map_map]
 exact List.map_id _
def slices_Compact_string_string.f (l0 : List ByteArray) : Option (List ByteArray) := if l0.length < 8796093022208 then (some (compactL l0)) else none
theorem slices_Compact_string_string.calls (P0_ : Nat → Prop) (u9000_ : Value) (l0 : List ByteArray) (r1 : List ByteArray) (w0 w : World) (hB : Below w0.heap.size w0 w) (ho0 : Kd.R Kd.string 9 w w0.heap.size P0_ u9000_ l0) (h : slices_Compact_string_string.f l0 = some r1) :
  Calls Try.prog 38 #[u9000_] w fun e w' => ∃ v0_ : Value, e = .returned (v0_) ∧ Kd.R Kd.string 9 w' w0.heap.size (fun k_ => (P0_ k_ ∨ w.heap.size ≤ k_)) v0_ r1 ∧ Below w0.heap.size w0 w' ∧ Kept w w' (fun k_ => P0_ k_) := by
 unfold slices_Compact_string_string.f at h
 by_cases hl : l0.length < 8796093022208
 ·rw [if_pos hl] at h
  obtain rfl := Option.some.inj h
  obtain ⟨A, c, rfl⟩ := Kd.R_slice ho0
  have e : (l0.map (·.data.toList)).map dict_str = l0 := by
   rw [List.map_map]
   exact List.map_id _
  refine (slices_Compact_R P0_ w0.heap.size A l0.length c (l0.map (·.data.toList)) w (by rw [e]; exact ho0) (by rw [List.length_map]; omega)).mono ?_
  rintro e w' ⟨rfl, ho, hg⟩
  exact ⟨_, rfl, Kd.R_mono ho (fun k hk => .inl hk), Below.grown hB hg (below_size hB) (Kd.R_base ho0), kept_of_grown hg (fun k e => ho0.1 k e)⟩
 rw [if_neg hl] at h
 cases h

/-! ### pred_Cols: function 21 -/
def pred_Cols.f (k : Nat) (a0_0 : Int) (a0_1 : ByteArray) (a0_2 : Int) (a0_3 : Int) (a0_4 : ByteArray) (l0_5 : List ByteArray) (l0_6 : List (S25)) : Option (List ByteArray) := (pred_cols.f k a0_0 a0_1 a0_2 a0_3 a0_4 l0_5 l0_6 ([] : List ByteArray)).bind fun t438 => ((slices_Sort_string_string.f t438).bind fun t441 => ((slices_Compact_string_string.f t441).bind fun t442 => (some t442)))
theorem pred_Cols.mono : ∀ a0 a1 a2 a3 a4 a5 a6 k, LeO (pred_Cols.f k a0 a1 a2 a3 a4 a5 a6) (pred_Cols.f (k + 1) a0 a1 a2 a3 a4 a5 a6) := by
 intro a0 a1 a2 a3 a4 a5 a6 k
 unfold pred_Cols.f
 repeat' first
   | (with_reducible exact pred_cols.mono _ _ _ _ _ _ _ _ _)
   | (with_reducible exact LeO.refl _)
   | (with_reducible exact LeO.none _)
   | (with_reducible refine LeO.ite ?_ ?_)
   | (with_reducible refine LeO.bind ?_ (fun _ => ?_))
   | exact pred_cols.mono _ _ _ _ _ _ _ _ _
   | exact LeO.none _
   | refine LeO.ite ?_ ?_
   | refine LeO.bind ?_ (fun _ => ?_)
set_option maxHeartbeats 8000000 in
set_option maxRecDepth 100000 in
theorem pred_Cols.calls (k : Nat) (a0_0 : Int) (a0_1 : ByteArray) (a0_2 : Int) (a0_3 : Int) (a0_4 : ByteArray) (A0_5 : Option Addr) (c0_5 : Nat) (l0_5 : List ByteArray) (A0_6 : Option Addr) (c0_6 : Nat) (l0_6 : List (S25)) (r : List ByteArray) (w : World) (hr0_5 : Kd.C Kd.string w A0_5 l0_5.length l0_5) (hc0_5 : l0_5.length ≤ c0_5) (hr0_6 : Kd.C k25 w A0_6 l0_6.length l0_6) (hc0_6 : l0_6.length ≤ c0_6) (h : pred_Cols.f k a0_0 a0_1 a0_2 a0_3 a0_4 l0_5 l0_6 = some r) :
  Calls Try.prog 21 #[.agg #[.int .i64 a0_0, .string a0_1, .int .i64 a0_2, .int .i64 a0_3, .string a0_4, .slice A0_5 l0_5.length c0_5, .slice A0_6 l0_6.length c0_6]] w fun e w' => ∃ v0_ : Value, e = .returned (v0_) ∧ Kd.R Kd.string 9 w' w.heap.size (fun _ => True) v0_ r ∧ Below w.heap.size w w' := by
 have hu25 := Try.underlying25
 have HR0_5 := zM hr0_5
 have HC0_5 := zM hc0_5
 clear hr0_5 hc0_5
 have HR0_6 := zM hr0_6
 have HC0_6 := zM hc0_6
 clear hr0_6 hc0_6
 have HB := zM (Below.refl w.heap.size w)
 have H : ((pred_cols.f k a0_0 a0_1 a0_2 a0_3 a0_4 l0_5 l0_6 ([] : List ByteArray)).bind fun t438 => ((slices_Sort_string_string.f t438).bind fun t441 => ((slices_Compact_string_string.f t441).bind fun t442 => (some t442)))) = some r := h
 clear h
 replace H := Option.bind_eq_some_iff.mp H
 obtain ⟨t438, A20, H⟩ := H
 try dsimp only at H
 have A2 := zM A20
 clear A20
 replace H := Option.bind_eq_some_iff.mp H
 obtain ⟨t441, A30, H⟩ := H
 try dsimp only at H
 have A3 := zM A30
 clear A30
 replace H := Option.bind_eq_some_iff.mp H
 obtain ⟨t442, A40, H⟩ := H
 try dsimp only at H
 have A4 := zM A40
 clear A40
 obtain rfl := Option.some.inj H
 go_enter Try.func21, Try.ntmps21
 go_wp2_with (first | ((with_reducible refine gate_dst (N := 1) rfl ?_); refine box_event ?hg (N := 1) ?hd (cs := #[.int .i64 a0_0, .string a0_1, .int .i64 a0_2, .int .i64 a0_3, .string a0_4, .slice A0_5 l0_5.length c0_5, .slice A0_6 l0_6.length c0_6]) (t := 25) ?hr ?_; (case hd => rfl); (case hg => rfl); (case hr => first | (go_simp; done) | (go_simp; rfl)); intro gb437 hg w5 hbox hb; have BK437 := zM (hbox); have GW437 := zM ((by rw [hg]; exact (below_size (mB HB.out)) : w.heap.size ≤ gb437)); replace HB := zM (below_step (mB HB.out) hb); have GE437 := GW437; clear hb hbox hg; obtain ⟨hcz6_0, hcz6_1, hcz6_2, hcz6_3, hcz6_4, hcz6_5, hcz6_6, hfz6_0, hfz6_1, hfz6_2, hfz6_3, hfz6_4, hfz6_5, hfz6_6⟩ := cells_7 BK437.out) | ((with_reducible refine gate_callee (f := 36) rfl ?_); refine goesL_ (some 5) rfl rfl Try.func36 (by kernel_rfl) rfl #[.agg #[.int .i64 a0_0, .string a0_1, .int .i64 a0_2, .int .i64 a0_3, .string a0_4, .slice A0_5 l0_5.length c0_5, .slice A0_6 l0_6.length c0_6], .slice none 0 0] rfl yb ?_; (refine (pred_cols.calls k a0_0 a0_1 a0_2 a0_3 a0_4 _ _ l0_5 _ _ l0_6 _ _ ([] : List ByteArray) t438 _ ?side1 ?side2 ?side3 ?side4 ?side5 ?side6 A2.out).mono ?_); (case side1 => exact zC (Kd.C_below HR0_5.out HB.out)); (case side2 => first | exact HC0_5.out | exact Kd.V_mono HC0_5.out (fun k_ hk_ => by grind)); (case side3 => exact zC (Kd.C_below HR0_6.out HB.out)); (case side4 => first | exact HC0_6.out | exact Kd.V_mono HC0_6.out (fun k_ hk_ => by grind)); (case side5 => exact Kd.C_nil _ _); (case side6 => exact Nat.le_refl _); rintro e w7 ⟨v439, rfl, ho0, hb⟩; refine ⟨_, rfl, ?_⟩; have HO440 := zM (Kd.R_lower ho0 (below_size mZ)); replace BK437 := zK BK437 hb; replace HB := zM (below_step mZ hb); (try clear hb); (try clear ho0); obtain ⟨Ao8, co8, eo8⟩ := Kd.R_slice HO440.out; subst eo8) | ((with_reducible refine gate_callee (f := 37) rfl ?_); refine goesL_ (some 7) rfl rfl Try.func37 (by kernel_rfl) rfl #[.slice Ao8 t438.length co8] rfl yb ?_; (with_reducible refine (slices_Sort_string_string.calls (fun k_ => some k_ = (.slice Ao8 t438.length co8 : Value).ownBlock) (.slice Ao8 t438.length co8) t438 t441 w _ ?side1 ?side2 A3.out).mono ?_); (case side1 => repeat (first | (with_reducible first | exact HB.out | apply below_alloc | apply pw_below_drewN | apply below_drew1 | refine below_set ?_ GE437.out) | exact HB.out)); (case side2 => exact Kd.R_tight rfl HO440.out); rintro e w9 ⟨rfl, hy0, hb, hkp⟩; refine ⟨_, rfl, ?_⟩; replace BK437 := zM (blk_kept (mK BK437.out) hkp (fun hs_ => (fun e_ => (Kd.R_ne HO440.out BK437.out (by decide)) e_) hs_)); replace HO440 := zM (Kd.R_reok rfl hy0 (fun k_ e_ => HO440.out.1 k_ e_)); replace HB := zM (hb); (try clear hb); (try clear hkp); (try clear hy0)) | ((with_reducible refine gate_callee (f := 38) rfl ?_); refine goesL_ (some 9) rfl rfl Try.func38 (by kernel_rfl) rfl #[.slice Ao8 t438.length co8] rfl yb ?_; (with_reducible refine (slices_Compact_string_string.calls (fun k_ => some k_ = (.slice Ao8 t438.length co8 : Value).ownBlock) (.slice Ao8 t438.length co8) t441 t442 w _ ?side1 ?side2 A4.out).mono ?_); (case side1 => repeat (first | (with_reducible first | exact HB.out | apply below_alloc | apply pw_below_drewN | apply below_drew1 | refine below_set ?_ GE437.out) | exact HB.out)); (case side2 => exact Kd.R_tight rfl HO440.out); rintro e w10 ⟨v443, rfl, ho0, hb, hkp⟩; refine ⟨_, rfl, ?_⟩; replace BK437 := zM (blk_kept (mK BK437.out) hkp (fun hs_ => (fun e_ => (Kd.R_ne HO440.out BK437.out (by decide)) e_) hs_)); have HO444 := zM (Kd.R_mono (ok' := fun k_ => True) ho0 (fun k_ hk_ => trivial)); replace HB := zM (hb); clear HO440; (try clear hb); (try clear hkp); (try clear ho0)))
 go_ret
 exact ⟨_, by first | rfl | (simp [errW_none, errW_some] <;> rfl) | (simp [*, errW_none, errW_some] <;> rfl), mR HO444.out, mZ⟩

/-! ### columbariumkeep_At: function 22 -/
def columbariumkeep_At.f (a0 : Int) (a1 : Int) (l2 : List (S52)) : Option (Int × Int × (List (S52))) := (some (([] : List (S52)) : List (S52))).bind fun y446 => (if y446.length + l2.length < 2932031007402 then (some (a0, a1, (y446 ++ l2))) else (none))
set_option maxHeartbeats 8000000 in
set_option maxRecDepth 100000 in
theorem columbariumkeep_At.calls (a0 : Int) (a1 : Int) (A2 : Option Addr) (c2 : Nat) (l2 : List (S52)) (r1 : Int) (r2 : Int) (r3 : List (S52)) (w : World) (hr2 : Kd.C k52 w A2 l2.length l2) (hc2 : l2.length ≤ c2) (h : columbariumkeep_At.f a0 a1 l2 = some (r1, r2, r3)) :
  Calls Try.prog 22 #[.int .i64 a0, .int .i64 a1, .slice A2 l2.length c2] w fun e w' => ∃ v2_ : Value, e = .returned (.agg #[.int .i64 r1, .int .i64 r2, v2_]) ∧ Kd.R k52 52 w' w.heap.size (fun _ => True) v2_ r3 ∧ Below w.heap.size w w' := by
 have hu36 := Try.underlying36
 have HR2 := zM hr2
 have HC2 := zM hc2
 clear hr2 hc2
 have HB := zM (Below.refl w.heap.size w)
 have H : ((some (([] : List (S52)) : List (S52))).bind fun y446 => (if y446.length + l2.length < 2932031007402 then (some (a0, a1, (y446 ++ l2))) else (none))) = some (r1, r2, r3) := h
 clear h
 obtain ⟨y446, hy446⟩ : ∃ y_ : List (S52), y_ = (([] : List (S52))) := ⟨_, rfl⟩
 replace H : (if y446.length + l2.length < 2932031007402 then (some (a0, a1, (y446 ++ l2))) else (none)) = some (r1, r2, r3) := by first | (rw [hy446]; with_reducible exact H) | (have H2_ := (Option.bind_some _ _).symm.trans H; rw [hy446]; with_reducible exact H2_) | (have H2_ := (Option.bind_some _ _).symm.trans H; with_reducible exact H2_) | with_reducible exact H | (rw [hy446]; exact H) | exact H
 have Ny446 := zM hy446
 clear hy446
 by_cases c4 : y446.length + l2.length < 2932031007402
 ·rw [if_pos c4] at H
  have LMc4 := zM c4
  clear c4
  obtain ⟨y449, hy449⟩ : ∃ y_ : List (S52), y_ = (y446 ++ l2) := ⟨_, rfl⟩
  replace H : (some (a0, a1, y449)) = some (r1, r2, r3) := by first | (rw [hy449]; with_reducible exact H) | (have H2_ := (Option.bind_some _ _).symm.trans H; rw [hy449]; with_reducible exact H2_) | (have H2_ := (Option.bind_some _ _).symm.trans H; with_reducible exact H2_) | with_reducible exact H | (rw [hy449]; exact H) | exact H
  have Ny449 := zM hy449
  clear hy449
  simp only [Option.some.injEq, Prod.mk.injEq] at H
  obtain ⟨rfl, rfl, rfl⟩ := H
  go_enter Try.func22, Try.ntmps22
  go_wp2_with (first | ((with_reducible refine gate_dst (N := 6) rfl ?_); refine box_event ?hg (N := 6) ?hd (cs := #[.int .i64 0, .int .i64 0, .slice none 0 0]) (t := 36) ?hr ?_; (case hd => rfl); (case hg => rfl); (case hr => first | (go_simp; done) | (go_simp; rfl)); intro gb445 hg w5 hbox hb; have BK445 := zM (hbox); have GW445 := zM ((by rw [hg]; exact (below_size (mB HB.out)) : w.heap.size ≤ gb445)); replace HB := zM (below_step (mB HB.out) hb); have GE445 := GW445; clear hb hbox hg) | ((with_reducible refine gate_dst (N := 9) rfl ?_); refine Kd.R_lit k52 _ 52 ?hg (N := 9) ?hd (xs := ([] : List (S52))) (inner := []) (ok := fun _ => True) (okp := fun _ => True) ?hr ?hp (fun _ hk => hk) trivial (Below.refl _ _) (Nat.le_refl _) (by simp) ?_; (case hd => rfl); (case hg => rfl); (case hr => first | (go_simp; done) | (go_simp; rfl)); (case hp => exact (Reps.none _ _)); intro v447 w6 ho7 hb hg_ hnew_; clear hg_ hnew_; (first | rw [← Ny446.out] at ho7 | (simp only [Int.reduceToNat] at ho7; rw [← Ny446.out] at ho7)); have HO448 := zM (Kd.R_lower ho7 (below_size mZ)); replace BK445 := zK BK445 hb; replace HB := zM (below_step mZ hb); clear hb ho7) | ((with_reducible refine gate_builtin (b := .append) (xs := #[.tmp 9, .tmp 10]) rfl ?_); at_builtin; refine Kd.R_append_rows k52 (w0 := w) w.heap.size rfl (.tmp 9) (.tmp 10) 34 52 (.agg #[(.string ⟨#[]⟩), (.int .i64 0), (.int .i64 0), (.string ⟨#[]⟩)]) 48 rfl Try.underlying34 info52 rfl (by decide) (by omega) v447 y446 l2 _ _ _ (fun _ => True) (fun _ => False) rfl rfl ?aO ?aR (fun _ _ h => h) (fun _ h => h.elim) ?aF ?aB ?aS ?aL ?_; (case aR => exact zC (Kd.C_below HR2.out HB.out)); (case aB => exact mZ); (case aF => exact (fun _ _ => trivial)); (case aO => exact (mR HO448.out)); (case aS => exact (below_size mZ)); (case aL => have := LMc4.out; omega); intro v450 w8 ho hb hg hat; rw [← Ny449.out] at ho; replace BK445 := zM (blk_grown (mK BK445.out) hg (Kd.R_ne HO448.out BK445.out (by decide))); replace HB := zM (hb); have HO451 := zM (ho); clear HO448; clear ho hb hg hat; obtain ⟨Ao9, co9, eo9⟩ := Kd.R_slice HO451.out; subst eo9; obtain ⟨hcz10_0, hcz10_1, hcz10_2, hfz10_0, hfz10_1, hfz10_2⟩ := cells_3 BK445.out))
  refine bodyPost_ret (results_cell_row rfl _ _ gb445 36 #[.int .i64 a0, .int .i64 a1, .slice Ao9 y449.length co9] (0, 0) _ rfl (by (with_reducible repeat (first | refine blk_drewN ?_ _ | refine blk_drew ?_ | refine blk_alloc ?_ _)); apply puts_3; (with_reducible repeat (first | refine blk_drewN ?_ _ | refine blk_drew ?_ | refine blk_alloc ?_ _)); exact BK445.out) Try.underlying36 rfl (by kernel_rfl)) rfl ?_
  exact ⟨_, by first | rfl | (simp [errW_none, errW_some] <;> rfl) | (simp [*, errW_none, errW_some] <;> rfl), by (with_reducible repeat (first | apply Kd.R_alloc | apply Kd.R_drewN | apply Kd.R_drew)); exact Kd.R_mono (zgR (Kd.R_types HO451.out BK445.out (by decide))) (fun _ hk => trivial), mZ⟩
 rw [if_neg c4] at H
 exact absurd H (by simp)

end Go.Proofs.Ytalpcnomfebdiaa.QPredRules
