-- Written by a program of this session (wip/myprint.py): the machine's side of a law
import Derived.Test.YtifcocmmapgebaaQBloomTellsx0
import Derived.Test.YtifcocmmapgebaaQBloomTellsx3
import Derived.Test.YtifcocmmapgebaaQBloomTellsx4
namespace Go.Proofs.Ytifcocmmapgebaa.QBloomTells
open Go.RowKit Go.Proofs.YtifcocmmapgebaaW.PrintWords Go.Proofs.YtifcocmmapgebaaW.PrintLast Go.Proofs.YtifcocmmapgebaaW.PrintMore
attribute [local go_sem] max2_int min2_int max_two min_two max_three min_three max_four min_four   -- for this text's walks alone
set_option linter.unusedVariables false
set_option linter.unusedSimpArgs false

/-! ### columbariumref9_Encode: function 17 -/
def columbariumref9_Encode.f (k : Nat) (a0_0 : Int) (l0_1 : List Int) : Option (List Int × Int) := (columbariumref9_Right.f k a0_0 l0_1).bind fun t245 => (if t245 = true then ((columbariumref1_Put.f k ([] : List Int) (IntKind.u64.wrap (a0_0))).bind fun t246 => (if t246.length + l0_1.length < 140737488355328 then (some ((t246 ++ l0_1), 0)) else (none))) else (some (([] : List Int), 12)))
theorem columbariumref9_Encode.mono : ∀ a0 a1 k, LeO (columbariumref9_Encode.f k a0 a1) (columbariumref9_Encode.f (k + 1) a0 a1) := by
 intro a0 a1 k
 unfold columbariumref9_Encode.f
 repeat' first
   | (with_reducible exact columbariumref1_Put.mono _ _ _)
   | (with_reducible exact columbariumref9_Right.mono _ _ _)
   | (with_reducible exact LeO.refl _)
   | (with_reducible exact LeO.none _)
   | (with_reducible refine LeO.ite ?_ ?_)
   | (with_reducible refine LeO.bind ?_ (fun _ => ?_))
   | exact columbariumref1_Put.mono _ _ _
   | exact columbariumref9_Right.mono _ _ _
   | exact LeO.none _
   | refine LeO.ite ?_ ?_
   | refine LeO.bind ?_ (fun _ => ?_)
def columbariumref9_Encode.T3 : Bool × List (List Nat × List Nat) := (true, [([], []), ([0], [0]), ([1], [1]), ([2], [2]), ([], []), ([4], [4]), ([3, 5, 3], [3, 5]), ([6, 6, 0, 1, 2, 3, 4, 5, 6], [6]), ([7, 0, 1, 2, 3, 4, 5, 6, 7], [])])
def columbariumref9_Encode.B3 : List Nat := [0, 1, 3, 7, 0, 16, 63, 127, 255]
theorem columbariumref9_Encode.tab3 : rtab .any (opsOf Try.f17 3) = columbariumref9_Encode.T3 := by kernel_rfl
theorem columbariumref9_Encode.bits3 : waitsOk columbariumref9_Encode.T3.2 columbariumref9_Encode.B3 = true := by kernel_rfl
set_option maxHeartbeats 8000000 in
set_option maxRecDepth 100000 in
theorem columbariumref9_Encode.calls (k : Nat) (a0_0 : Int) (A0_1 : Option Addr) (c0_1 : Nat) (l0_1 : List Int) (r1 : List Int) (r2 : Int) (w : World) (hr0_1 : Kd.C (Kd.int .u8) w A0_1 l0_1.length l0_1) (hc0_1 : l0_1.length ≤ c0_1) (h : columbariumref9_Encode.f k a0_0 l0_1 = some (r1, r2)) :
  Calls Try.prog 17 #[.agg #[.int .i64 a0_0, .slice A0_1 l0_1.length c0_1]] w fun e w' => ∃ v0_ : Value, e = .returned (.tuple #[v0_, .int .i64 r2]) ∧ Kd.R (Kd.int .u8) 5 w' w.heap.size (fun _ => True) v0_ r1 ∧ Below w.heap.size w w' := by
 have hu36 := Try.underlying36
 have HR0_1 := Aside0.mk hr0_1
 have HC0_1 := Aside0.mk hc0_1
 clear hr0_1 hc0_1
 have HB := Aside0.mk (Below.refl w.heap.size w)
 have H : ((columbariumref9_Right.f k a0_0 l0_1).bind fun t245 => (if t245 = true then ((columbariumref1_Put.f k ([] : List Int) (IntKind.u64.wrap (a0_0))).bind fun t246 => (if t246.length + l0_1.length < 140737488355328 then (some ((t246 ++ l0_1), 0)) else (none))) else (some (([] : List Int), 12)))) = some (r1, r2) := h
 clear h
 replace H := Option.bind_eq_some_iff.mp H
 obtain ⟨t245, A20, H⟩ := H
 replace H : (if t245 = true then ((columbariumref1_Put.f k ([] : List Int) (IntKind.u64.wrap (a0_0))).bind fun t246 => (if t246.length + l0_1.length < 140737488355328 then (some ((t246 ++ l0_1), 0)) else (none))) else (some (([] : List Int), 12))) = some (r1, r2) := H
 have A2 := Aside0.mk A20
 clear A20
 by_cases c3 : t245 = true
 ·subst c3
  have H1 : ((columbariumref1_Put.f k ([] : List Int) (IntKind.u64.wrap (a0_0))).bind fun t246 => (if t246.length + l0_1.length < 140737488355328 then (some ((t246 ++ l0_1), 0)) else (none))) = some (r1, r2) := by rw [if_pos rfl] at H; exact H
  clear H
  have H := H1
  clear H1
  replace H := Option.bind_eq_some_iff.mp H
  obtain ⟨t246, A40, H⟩ := H
  replace H : (if t246.length + l0_1.length < 140737488355328 then (some ((t246 ++ l0_1), 0)) else (none)) = some (r1, r2) := H
  have A4 := Aside0.mk A40
  clear A40
  by_cases c5 : t246.length + l0_1.length < 140737488355328
  ·rw [if_pos c5] at H
   have LMc5 := Aside0.mk c5
   clear c5
   obtain ⟨y249, hy249⟩ : ∃ y_ : List Int, y_ = (t246 ++ l0_1) := ⟨_, rfl⟩
   replace H : (some (y249, 0)) = some (r1, r2) := by first | (rw [hy249]; with_reducible exact H) | (have H2_ := (Option.bind_some _ _).symm.trans H; rw [hy249]; with_reducible exact H2_) | (have H2_ := (Option.bind_some _ _).symm.trans H; with_reducible exact H2_) | with_reducible exact H | (rw [hy249]; exact H) | exact H
   have Ny249 := Aside0.mk hy249
   clear hy249
   simp only [Option.some.injEq, Prod.mk.injEq] at H
   obtain ⟨rfl, rfl⟩ := H
   go_enter Try.func17, Try.ntmps17
   try go_wp2_with (first | ((with_reducible refine gate_dst (N := 1) rfl ?_); refine box_event ?hg (N := 1) ?hd (cs := #[.int .i64 a0_0, .slice A0_1 l0_1.length c0_1]) (t := 36) ?hr ?_; (case hd => rfl); (case hg => rfl); (case hr => first | (go_simp; done) | (go_simp; rfl)); intro gb244 hg w6 hbox hb; have n0_ := Aside0.mk (below_step (mB HB.out) hb); have n1_ := Aside0.mk (hbox); have n2_ := Aside0.mk ((by rw [hg]; exact (below_size (mB HB.out)) : w.heap.size ≤ gb244)); have n3_ := n2_; clear HB; have HB := n0_; have BK244 := n1_; have GW244 := n2_; have GE244 := n3_; clear n0_ n1_ n2_ n3_; clear hb hbox hg; obtain ⟨hcz7_0, hcz7_1, hfz7_0, hfz7_1⟩ := cells_2 BK244.out) | ((with_reducible refine gate_callee (f := 19) rfl ?_); refine goesL_ (some 5) rfl rfl Try.func19 (by kernel_rfl) rfl #[.agg #[.int .i64 a0_0, .slice A0_1 l0_1.length c0_1]] rfl (by (try simp only [List.map_toArray, List.map_cons, List.map_nil]); first | done | rfl | (simp only [List.length_drop, List.length_take]; rfl)) ?_; (with_reducible refine (columbariumref9_Right.calls k a0_0 _ _ l0_1 true _ ?side1 ?side2 A2.out).mono ?_); (case side1 => repeat (first | exact (Kd.C_below HR0_1.out HB.out) | (with_reducible refine Kd.C_alloc ?_ _) | (with_reducible refine Kd.C_drewN ?_ _) | (with_reducible refine Kd.C_drew ?_))); (case side2 => first | exact HC0_1.out | exact Kd.V_mono HC0_1.out (fun k_ hk_ => by grind)); rintro e w8 ⟨rfl, hb⟩; refine ⟨_, rfl, ?_⟩; have n0_ := Aside0.mk (blk_below (mK BK244.out) hb); have n1_ := Aside0.mk (below_step mZ hb); clear BK244; clear HB; have BK244 := n0_; have HB := n1_; clear n0_ n1_; (try clear hb); (try clear hb2); (try clear hk); (try clear hi)))
   have n0_ := Aside0.mk (blk_drew BK244.out)
   have n1_ := Aside0.mk (below_drew1 HB.out)
   clear BK244
   clear HB
   have BK244 := n0_
   have HB := n1_
   clear n0_ n1_
   refine start_ (n := 9) (S := fun w' => w'.cell? ⟨gb244, 0, none⟩ = some (.int .i64 a0_0) ∧ w'.cell? ⟨gb244, 1, none⟩ = some (.slice A0_1 l0_1.length c0_1)) (ds := []) #[false, false, false, false, false, false, false, false, false] (by kernel_rfl) rfl rfl ⟨(blk_cell BK244.out 0).trans rfl, (blk_cell BK244.out 1).trans rfl⟩ (fun hHeld => ?_); refine with_tabW columbariumref9_Encode.tab3 columbariumref9_Encode.bits3 (fun HT_ HW_ => ?_)
   generalize w8.drew = w9 at BK244 HB hHeld ⊢
   refine pure_ (i := 0) (N := some 7) (v := ?_) (a' := ?_) #[true, false, false, false, false, false, false, false, false] rfl rfl (any_of HT_.out (by kernel_rfl)) (fun _ _ _ h => h) (Or.inl ⟨by rfl, ?_⟩) ?_ ?_
   rotate_left
   ·intro w'
    go_simp
    with_reducible rfl
   rotate_left
   ·simp only [Act.put, List.setIfInBounds_toArray, List.set_cons_zero, List.set_cons_succ, i64_w, i32_w]
    rfl
   refine pure_ (i := 4) (N := some 11) (v := ?_) (a' := ?_) #[true, false, false, false, true, false, false, false, false] rfl rfl (any_of HT_.out (by kernel_rfl)) (fun _ _ _ h => h) (Or.inl ⟨by rfl, ?_⟩) ?_ ?_
   rotate_left
   ·intro w'
    go_simp
    with_reducible rfl
   rotate_left
   ·simp only [Act.put, List.setIfInBounds_toArray, List.set_cons_zero, List.set_cons_succ, i64_w, i32_w]
    rfl
   refine take_ (i := 1) (N := some 8) (v := ?_) (a' := ?_) #[true, true, false, false, true, false, false, false, false] rfl rfl (take_ofW HT_.out HW_.out (by kernel_rfl)) (fun _ _ _ h => h) (Or.inl ⟨by rfl, ?_⟩) hHeld ?_ ?_
   rotate_left
   ·rintro w' ⟨s0, s1⟩
    go_simp
    with_reducible rfl
   rotate_left
   ·simp only [Act.put, List.setIfInBounds_toArray, List.set_cons_zero, List.set_cons_succ, i64_w, i32_w]
    rfl
   refine pure_ (i := 2) (N := some 9) (v := ?_) (a' := ?_) #[true, true, true, false, true, false, false, false, false] rfl rfl (any_of HT_.out (by kernel_rfl)) (fun _ _ _ h => h) (Or.inl ⟨by rfl, ?_⟩) ?_ ?_
   rotate_left
   ·intro w'
    go_simp
    with_reducible rfl
   rotate_left
   ·simp only [Act.put, List.setIfInBounds_toArray, List.set_cons_zero, List.set_cons_succ, i64_w, i32_w]
    rfl
   refine take_ (i := 5) (N := some 12) (v := ?_) (a' := ?_) #[true, true, true, false, true, true, false, false, false] rfl rfl (take_ofW HT_.out HW_.out (by kernel_rfl)) (fun _ _ _ h => h) (Or.inl ⟨by rfl, ?_⟩) hHeld ?_ ?_
   rotate_left
   ·rintro w' ⟨s0, s1⟩
    go_simp
    with_reducible rfl
   rotate_left
   ·simp only [Act.put, List.setIfInBounds_toArray, List.set_cons_zero, List.set_cons_succ, i64_w, i32_w]
    rfl
   refine one_ (i := 3) (N := some 10) #[true, true, true, true, true, true, false, false, false] rfl rfl (one_of HT_.out (by kernel_rfl)) (by decide) (fun K hK => ?_)
   refine goes_ Try.func33 (by kernel_rfl) rfl #[.slice none 0 0, .int .u64 (IntKind.u64.wrap (a0_0))] (by rfl) rfl rfl (by (try simp only [List.map_toArray, List.map_cons, List.map_nil]); first | done | rfl | (simp only [List.length_drop, List.length_take]; rfl)) ?_
   refine (columbariumref1_Put.calls k _ _ ([] : List Int) (IntKind.u64.wrap (a0_0)) t246 _ ?side1 ?side2 A4.out).mono ?_
   (case side1 => exact Kd.C_nil _ _)
   (case side2 => exact Nat.le_refl _)
   rintro e w10 ⟨v247, rfl, ho0, hb⟩
   refine ⟨_, rfl, ?_⟩
   have n0_ := Aside0.mk (Kd.R_lower ho0 (below_size mZ))
   have n1_ := Aside0.mk (blk_below (mK BK244.out) hb)
   have n2_ := Aside0.mk (below_step mZ hb)
   clear BK244
   clear HB
   have HO248 := n0_
   have BK244 := n1_
   have HB := n2_
   clear n0_ n1_ n2_
   (try clear hb)
   (try clear hb2)
   (try clear hk)
   (try clear hi)
   (try clear ho0)
   refine hK.out _ _ ⟨(blk_cell BK244.out 0).trans rfl, (blk_cell BK244.out 1).trans rfl⟩ (fun hHeld => ?_)
   clear hK K
   refine norm_ (a' := ?_) ?_ ?_
   rotate_left
   ·show Act.put _ (some 10) _ = _
    simp only [Act.put, List.setIfInBounds_toArray, List.set_cons_zero, List.set_cons_succ, i64_w, i32_w]
    rfl
   refine one_ (i := 6) (N := some 13) #[true, true, true, true, true, true, true, false, false] rfl rfl (one_of HT_.out (by kernel_rfl)) (by decide) (fun K hK => ?_)
   refine Kd.R_append_rows_step (Kd.int .u8) (w0 := w) w.heap.size (by rfl) (.tmp 10) (.tmp 12) 24 5 (.int .u8 0) 1 rfl Try.underlying24 info5 rfl (by decide) (by omega) v247 t246 l0_1 _ _ _ (fun _ => True) (fun _ => False) rfl rfl ?aO ?aR (fun _ _ h => h) (fun _ h => h.elim) ?aF ?aB ?aS ?aL ?_
   (case aR => repeat (first | exact (Kd.C_below HR0_1.out HB.out) | (with_reducible refine Kd.C_alloc ?_ _) | (with_reducible refine Kd.C_drewN ?_ _) | (with_reducible refine Kd.C_drew ?_)))
   (case aB => exact mZ)
   (case aF => exact (fun _ _ => trivial))
   (case aO => exact (mR HO248.out))
   (case aS => exact (below_size mZ))
   (case aL => have := LMc5.out; omega)
   intro v250 w11 ho hb hg hat
   rw [← Ny249.out] at ho
   have n0_ := Aside0.mk (blk_grown (mK BK244.out) hg (Kd.R_ne HO248.out BK244.out (by decide)))
   have n1_ := Aside0.mk (hb)
   have n2_ := Aside0.mk (ho)
   clear BK244
   clear HB
   clear HO248
   have BK244 := n0_
   have HB := n1_
   have HO251 := n2_
   clear n0_ n1_ n2_
   clear ho hb hg hat
   refine hK.out _ _ ⟨(blk_cell BK244.out 0).trans rfl, (blk_cell BK244.out 1).trans rfl⟩ (fun hHeld => ?_)
   clear hK K
   refine norm_ (a' := ?_) ?_ ?_
   rotate_left
   ·show Act.put _ (some 13) _ = _
    simp only [Act.put, List.setIfInBounds_toArray, List.set_cons_zero, List.set_cons_succ, i64_w, i32_w]
    rfl
   refine pure_ (i := 7) (N := some 2) (v := ?_) (a' := ?_) #[true, true, true, true, true, true, true, true, false] rfl rfl (any_of HT_.out (by kernel_rfl)) (fun _ _ _ h => h) (Or.inl ⟨by rfl, ?_⟩) ?_ ?_
   rotate_left
   ·intro w'
    go_simp
    with_reducible rfl
   rotate_left
   ·simp only [Act.put, List.setIfInBounds_toArray, List.set_cons_zero, List.set_cons_succ, i64_w, i32_w]
    rfl
   refine pure_ (i := 8) (N := some 3) (v := ?_) (a' := ?_) #[true, true, true, true, true, true, true, true, true] rfl rfl (any_of HT_.out (by kernel_rfl)) (fun _ _ _ h => h) (Or.inl ⟨by rfl, ?_⟩) ?_ ?_
   rotate_left
   ·intro w'
    go_simp
    with_reducible rfl
   rotate_left
   ·simp only [Act.put, List.setIfInBounds_toArray, List.set_cons_zero, List.set_cons_succ, i64_w, i32_w]
    rfl
   refine done_ (done_of HT_.out (by kernel_rfl)) ?_
   try go_wp2
   go_ret2
   exact ⟨_, by first | rfl | (simp [errW_none, errW_some] <;> rfl) | (simp [*, errW_none, errW_some] <;> rfl), mR HO251.out, mZ⟩
  ·rw [if_neg c5] at H
   exact absurd H (by simp)
 ·replace c3 := Bool.eq_false_iff.mpr c3
  subst c3
  have H1 : (some (([] : List Int), 12)) = some (r1, r2) := by rw [if_neg (show ¬ (false = true) by decide)] at H; exact H
  clear H
  have H := H1
  clear H1
  simp only [Option.some.injEq, Prod.mk.injEq] at H
  obtain ⟨rfl, rfl⟩ := H
  go_enter Try.func17, Try.ntmps17
  go_wp2_with (first | ((with_reducible refine gate_dst (N := 1) rfl ?_); refine box_event ?hg (N := 1) ?hd (cs := #[.int .i64 a0_0, .slice A0_1 l0_1.length c0_1]) (t := 36) ?hr ?_; (case hd => rfl); (case hg => rfl); (case hr => first | (go_simp; done) | (go_simp; rfl)); intro gb244 hg w12 hbox hb; have n0_ := Aside0.mk (below_step (mB HB.out) hb); have n1_ := Aside0.mk (hbox); have n2_ := Aside0.mk ((by rw [hg]; exact (below_size (mB HB.out)) : w.heap.size ≤ gb244)); have n3_ := n2_; clear HB; have HB := n0_; have BK244 := n1_; have GW244 := n2_; have GE244 := n3_; clear n0_ n1_ n2_ n3_; clear hb hbox hg; obtain ⟨hcz13_0, hcz13_1, hfz13_0, hfz13_1⟩ := cells_2 BK244.out) | ((with_reducible refine gate_callee (f := 19) rfl ?_); refine goesL_ (some 5) rfl rfl Try.func19 (by kernel_rfl) rfl #[.agg #[.int .i64 a0_0, .slice A0_1 l0_1.length c0_1]] rfl (by (try simp only [List.map_toArray, List.map_cons, List.map_nil]); first | done | rfl | (simp only [List.length_drop, List.length_take]; rfl)) ?_; (with_reducible refine (columbariumref9_Right.calls k a0_0 _ _ l0_1 false _ ?side1 ?side2 A2.out).mono ?_); (case side1 => repeat (first | exact (Kd.C_below HR0_1.out HB.out) | (with_reducible refine Kd.C_alloc ?_ _) | (with_reducible refine Kd.C_drewN ?_ _) | (with_reducible refine Kd.C_drew ?_))); (case side2 => first | exact HC0_1.out | exact Kd.V_mono HC0_1.out (fun k_ hk_ => by grind)); rintro e w14 ⟨rfl, hb⟩; refine ⟨_, rfl, ?_⟩; have n0_ := Aside0.mk (blk_below (mK BK244.out) hb); have n1_ := Aside0.mk (below_step mZ hb); clear BK244; clear HB; have BK244 := n0_; have HB := n1_; clear n0_ n1_; (try clear hb); (try clear hb2); (try clear hk); (try clear hi)))
  go_ret2
  exact ⟨_, by first | rfl | (simp [errW_none, errW_some] <;> rfl) | (simp [*, errW_none, errW_some] <;> rfl), by first | exact Kd.R_nil _ _ _ _ _ | exact Kd.N_nil _ _ _ _ _ | exact Kd.V_nil _ _ _ _ _ | exact Kd.Q_nil _ _ _ _ _ | exact Kd.S_nil _ _ _ _ _, mZ⟩

/-! ### columbariumlaw9_in: function 18 -/
def columbariumlaw9_in.f (a0_0 : Int) (l0_1 : List Int) : Option (Int × List Int) := some (a0_0, l0_1)
set_option maxHeartbeats 8000000 in
set_option maxRecDepth 100000 in
theorem columbariumlaw9_in.calls (a0_0 : Int) (P0_1_ : Nat → Prop) (A0_1 : Option Addr) (c0_1 : Nat) (l0_1 : List Int) (r1 : Int) (r2 : List Int) (w : World) (hs0_1 : Kd.V (Kd.int .u8) 5 w w.heap.size (fun k_ => P0_1_ k_) (.slice A0_1 l0_1.length c0_1) l0_1) (h : columbariumlaw9_in.f a0_0 l0_1 = some (r1, r2)) :
  Calls Try.prog 18 #[.agg #[.int .i64 a0_0, .slice A0_1 l0_1.length c0_1]] w fun e w' => ∃ v1_ : Value, e = .returned (.agg #[.int .i64 r1, v1_]) ∧ Kd.V (Kd.int .u8) 5 w' w.heap.size (fun k_ => (P0_1_ k_ ∨ w.heap.size ≤ k_)) v1_ r2 ∧ Below w.heap.size w w' := by
 have hu26 := Try.underlying26
 have hu36 := Try.underlying36
 have HO0_1 := Aside0.mk (show Kd.V (Kd.int .u8) 5 w w.heap.size (fun k_ => (P0_1_ k_ ∨ w.heap.size ≤ k_)) (.slice A0_1 l0_1.length c0_1) l0_1 from Kd.V_mono hs0_1 (fun k_ hk => .inl hk))
 have HB := Aside0.mk (Below.refl w.heap.size w)
 have H : (some (a0_0, l0_1)) = some (r1, r2) := h
 clear h
 simp only [Option.some.injEq, Prod.mk.injEq] at H
 obtain ⟨rfl, rfl⟩ := H
 go_enter Try.func18, Try.ntmps18
 go_wp2_with (first | ((with_reducible refine gate_dst (N := 1) rfl ?_); refine box_event ?hg (N := 1) ?hd (cs := #[.int .i64 a0_0, .slice A0_1 l0_1.length c0_1]) (t := 26) ?hr ?_; (case hd => rfl); (case hg => rfl); (case hr => first | (go_simp; done) | (go_simp; rfl)); intro gb252 hg w2 hbox hb; have n0_ := Aside0.mk (Kd.V_below (Kd.V_elderB (mV HO0_1.out) gb252 (Nat.le_of_eq hg.symm)) hb); have n1_ := Aside0.mk (below_step (mB HB.out) hb); have n2_ := Aside0.mk (hbox); have n3_ := Aside0.mk ((by rw [hg]; exact (below_size (mB HB.out)) : w.heap.size ≤ gb252)); have n4_ := n3_; clear HO0_1; clear HB; have HO0_1 := n0_; have HB := n1_; have BK252 := n2_; have GW252 := n3_; have GE252 := n4_; clear n0_ n1_ n2_ n3_ n4_; clear hb hbox hg) | ((with_reducible refine gate_dst (N := 2) rfl ?_); refine box_event ?hg (N := 2) ?hd (cs := #[.int .i64 0, .slice none 0 0]) (t := 36) ?hr ?_; (case hd => rfl); (case hg => rfl); (case hr => first | (go_simp; done) | (go_simp; rfl)); intro gb253 hg w3 hbox hb; have n0_ := Aside0.mk (Kd.V_below (Kd.V_elderB (mV HO0_1.out) gb253 (Nat.le_of_eq hg.symm)) hb); have n1_ := Aside0.mk (blk_below (mK BK252.out) hb); have n2_ := Aside0.mk (below_step mZ hb); have n3_ := Aside0.mk (hbox); have n4_ := Aside0.mk ((by rw [hg]; exact (below_size mZ) : w.heap.size ≤ gb253)); have n5_ := n4_; have n6_ := Aside0.mk ((by rw [hg]; exact Nat.ne_of_lt (blk_lt (mK BK252.out)) : gb252 ≠ gb253)); have n7_ := Aside0.mk ((by rw [hg]; exact Nat.ne_of_gt (blk_lt (mK BK252.out)) : gb253 ≠ gb252)); clear HO0_1; clear BK252; clear HB; have HO0_1 := n0_; have BK252 := n1_; have HB := n2_; have BK253 := n3_; have GW253 := n4_; have GE253 := n5_; have NB252_253 := n6_; have NB253_252 := n7_; clear n0_ n1_ n2_ n3_ n4_ n5_ n6_ n7_; clear hb hbox hg; have hnb4 := NB252_253.out; have hnc4 := NB253_252.out; obtain ⟨hcz5_0, hcz5_1, hfz5_0, hfz5_1⟩ := cells_2 BK252.out; obtain ⟨hcz6_0, hcz6_1, hfz6_0, hfz6_1⟩ := cells_2 BK253.out))
 refine bodyPost_ret (results_cell_row rfl _ _ gb253 36 #[.int .i64 a0_0, .slice A0_1 l0_1.length c0_1] (0, 0) _ rfl (by (with_reducible repeat (first | refine blk_drewN ?_ _ | refine blk_drew ?_ | refine blk_alloc ?_ _)); apply puts_2; (with_reducible repeat (first | refine blk_drewN ?_ _ | refine blk_drew ?_ | refine blk_alloc ?_ _)); exact BK253.out) Try.underlying36 rfl (by kernel_rfl)) rfl ?_
 exact ⟨_, by first | rfl | (simp [errW_none, errW_some] <;> rfl) | (simp [*, errW_none, errW_some] <;> rfl), by (with_reducible repeat (first | apply Kd.V_alloc | apply Kd.V_drewN | apply Kd.V_drew)); exact Kd.V_mono (Kd.V_far (p := ⟨gb253, 1, none⟩) (Kd.V_far (p := ⟨gb253, 0, none⟩) (Kd.V_mono HO0_1.out (fun k_ hk => (⟨hk, hk.2⟩ : _ ∧ k_ ≠ gb253))) (fun _ hk => hk.2) (.int .i64 a0_0)) (fun _ hk => hk.2) (.slice A0_1 l0_1.length c0_1)) (fun _ hk => hk.1.1.1), mZ⟩

/-! ### columbariumref9_May: function 20 -/
/-! columbariumref9.May, whose array is read at a place that is no constant: by hand -/
def columbariumref9_unset (l0 : List Int) (x : Int) : Option Bool := if 0 ≤ wrap64 (Int.tdiv x 8) then (if wrap64 (Int.tdiv x 8) < (l0.length : Int) then some ((Go.bits .and .u8 (shr .u8 (rd l0 (wrap64 (Int.tdiv x 8))) (IntKind.u64.wrap (Int.tmod x 8))) 1) == 0) else none) else none
def columbariumref9_all (l0 : List Int) : List Int → Option Bool
 | [] => some true
 | x :: r => (columbariumref9_unset l0 x).bind fun t => if t = true then some false else columbariumref9_all l0 r
theorem columbariumref9_all_drop (l0 K : List Int) (x : Nat) (h : x < K.length) : columbariumref9_all l0 (K.drop x) = (columbariumref9_unset l0 (rd K (x : Int))).bind fun t => if t = true then some false else columbariumref9_all l0 (K.drop (x + 1)) := by
 have e : rd K (x : Int) = K[x] := by simp [rd, List.getD_eq_getElem?_getD, List.getElem?_eq_getElem h]
 rw [List.drop_eq_getElem_cons h, columbariumref9_all, e]
def columbariumref9_May.f (k : Nat) (a0_0 : Int) (l0_1 : List Int) (a1 : ByteArray) : Option Bool := (columbariumref9_Right.f k a0_0 l0_1).bind fun t => if t = true then ((columbariumref9_bits.f k a1 a0_0).bind fun r => columbariumref9_all l0_1 r) else some true
theorem columbariumref9_May.mono : ∀ a0 a1 a2 k, LeO (columbariumref9_May.f k a0 a1 a2) (columbariumref9_May.f (k + 1) a0 a1 a2) := by
 intro a0 a1 a2 k
 unfold columbariumref9_May.f
 exact LeO.bind (columbariumref9_Right.mono _ _ _) (fun _ => LeO.ite (LeO.bind (columbariumref9_bits.mono _ _ _) (fun _ => LeO.refl _)) (LeO.refl _))
set_option maxHeartbeats 8000000 in
set_option maxRecDepth 100000 in
theorem columbariumref9_May.calls (k : Nat) (a0_0 : Int) (A0_1 : Option Addr) (c0_1 : Nat) (l0_1 : List Int) (a1 : ByteArray) (r : Bool) (w : World) (hr0_1 : Kd.C (Kd.int .u8) w A0_1 l0_1.length l0_1) (hc0_1 : l0_1.length ≤ c0_1) (h : columbariumref9_May.f k a0_0 l0_1 a1 = some r) :
  Calls Try.prog 20 #[.agg #[.int .i64 a0_0, .slice A0_1 l0_1.length c0_1], .string a1] w fun e w' => e = .returned (.bool r) ∧ Below w.heap.size w w' := by
 have hu36 := Try.underlying36
 have hu64 := Try.underlying64
 have HR0 := Aside0.mk (Kd.C_alloc hr0_1 (.cells #[.int .i64 a0_0, .slice A0_1 l0_1.length c0_1] 36))
 have HC0 := Aside0.mk hc0_1
 have HB1 := Aside0.mk (below_alloc (Below.refl w.heap.size w) (.cells #[.int .i64 a0_0, .slice A0_1 l0_1.length c0_1] 36))
 have hv0 : (w.alloc (.cells #[.int .i64 a0_0, .slice A0_1 l0_1.length c0_1] 36)).cell? ⟨w.heap.size, 0, none⟩ = some (.int .i64 a0_0) := (blk_cell (blk_new w _) 0).trans rfl
 have hv1 : (w.alloc (.cells #[.int .i64 a0_0, .slice A0_1 l0_1.length c0_1] 36)).cell? ⟨w.heap.size, 1, none⟩ = some (.slice A0_1 l0_1.length c0_1) := (blk_cell (blk_new w _) 1).trans rfl
 have GE : Aside0 (w.heap.size ≤ w.heap.size) := ⟨Nat.le_refl _⟩
 clear hr0_1 hc0_1
 have H := h
 clear h
 unfold columbariumref9_May.f at H
 obtain ⟨t, At, H⟩ := Option.bind_eq_some_iff.mp H
 replace At := Aside0.mk At
 cases t with
 | false =>
  rw [if_neg (by decide)] at H
  obtain rfl := Option.some.inj H
  clear H
  go_enter Try.func20, Try.ntmps20
  go_wp2_with (go_at_call 19; refine (columbariumref9_Right.calls k a0_0 _ _ l0_1 false _ HR0.out HC0.out At.out).mono ?_; rintro e w2 ⟨rfl, hb2⟩; have hx0 := (hb2.cell (World.block_lt_of_cell? _ _ hv0)).trans hv0; have hx1 := (hb2.cell (World.block_lt_of_cell? _ _ hv1)).trans hv1; have HB2 := Aside0.mk (below_step HB1.out hb2); clear hb2)
  go_ret
  exact ⟨rfl, by repeat (first | (with_reducible first | exact HB2.out | apply below_alloc | apply pw_below_drewN | apply below_drew1) | exact HB2.out)⟩
 | true =>
  rw [if_pos rfl] at H
  obtain ⟨K, AK, H⟩ := Option.bind_eq_some_iff.mp H
  have HL := Aside0.mk (columbariumref9_bits_length AK)
  replace AK := Aside0.mk AK
  have H' := Aside0.mk H
  clear H
  go_enter Try.func20, Try.ntmps20
  go_wp2_with (first
   | (go_at_call 19; refine (columbariumref9_Right.calls k a0_0 _ _ l0_1 true _ HR0.out HC0.out At.out).mono ?_; rintro e w2 ⟨rfl, hb2⟩; have hx0 := (hb2.cell (World.block_lt_of_cell? _ _ hv0)).trans hv0; have hx1 := (hb2.cell (World.block_lt_of_cell? _ _ hv1)).trans hv1; have HB2 := Aside0.mk (below_step HB1.out hb2); have HR2 := Aside0.mk (Kd.C_below HR0.out hb2); clear hb2)
   | (go_at_call 31; refine (columbariumref9_bits.calls k a1 a0_0 K _ AK.out).mono ?_; rintro e w3 ⟨rfl, hb3⟩; have hy0 := (hb3.cell (World.block_lt_of_cell? _ _ hx0)).trans hx0; have hy1 := (hb3.cell (World.block_lt_of_cell? _ _ hx1)).trans hx1; have HB3 := Aside0.mk (below_step HB2.out hb3); have HR3 := Aside0.mk (Kd.C_below HR2.out hb3); clear hb3))
  have hz1 : (w3.alloc (.cells #[.int .i64 (rd K 0), .int .i64 (rd K 1), .int .i64 (rd K 2), .int .i64 (rd K 3)] 64)).cell? ⟨w.heap.size, 1, none⟩ = some (.slice A0_1 l0_1.length c0_1) := ((below_alloc (Below.refl w3.heap.size w3) (.cells #[.int .i64 (rd K 0), .int .i64 (rd K 1), .int .i64 (rd K 2), .int .i64 (rd K 3)] 64)).cell (World.block_lt_of_cell? _ _ hy1)).trans hy1
  have b5 := blk_new w3 (.cells #[.int .i64 (rd K 0), .int .i64 (rd K 1), .int .i64 (rd K 2), .int .i64 (rd K 3)] 64)
  have HR4 := Aside0.mk (Kd.C_alloc HR3.out (.cells #[.int .i64 (rd K 0), .int .i64 (rd K 1), .int .i64 (rd K 2), .int .i64 (rd K 3)] 64))
  have HB4 := Aside0.mk (below_alloc HB3.out (.cells #[.int .i64 (rd K 0), .int .i64 (rd K 1), .int .i64 (rd K 2), .int .i64 (rd K 3)] 64))
  obtain ⟨g5, hg5⟩ : ∃ g, g = w3.heap.size := ⟨_, rfl⟩
  obtain ⟨g2, hg2⟩ : ∃ g, g = w.heap.size := ⟨_, rfl⟩
  rw [← hg5] at b5
  rw [← hg2] at hz1
  rw [← hg5, ← hg2]
  generalize w3.alloc (.cells #[.int .i64 (rd K 0), .int .i64 (rd K 1), .int .i64 (rd K 2), .int .i64 (rd K 3)] 64) = w4 at hz1 b5 HR4 HB4 ⊢
  clear hv0 hv1 hx0 hx1 hy0 hy1 HR0 HR2 HR3 HB1 HB2 HB3 GE hg5 hg2
  have B5 := Aside0.mk b5
  clear b5
  go_loopg [6] 4 (fun kq v6 w' => ∃ i : Nat, v6 = .int .i64 (i : Int) ∧ Aside0 (i ≤ 4 ∧ 4 - i ≤ kq) ∧ Aside0 (columbariumref9_all l0_1 (K.drop i) = some r) ∧ Drawn0 w4 w')
  case atStart => exact ⟨0, rfl, ⟨by omega, by omega⟩, ⟨by rw [List.drop_zero]; exact H'.out⟩, Drawn0.refl _⟩
  case round =>
   clear H'
   obtain ⟨i, rfl, HI, HA, ⟨m1, rfl⟩⟩ := hrel
   by_cases h : i < 4
   ·have hlt : decide ((i : Int) < 4) = true := decide_eq_true (by omega)
    have hp1 : (0 ≤ (i : Int)) = True := eq_true (by omega)
    have hq1 : ((i : Int) < 4) = True := eq_true (by omega)
    have hcz : w4.cell? ⟨g5, i, none⟩ = some (.int .i64 (rd K (i : Int))) := by
     have hi : i = 0 ∨ i = 1 ∨ i = 2 ∨ i = 3 := by omega
     rcases hi with rfl | rfl | rfl | rfl
     ·exact (blk_cell B5.out 0).trans rfl
     ·exact (blk_cell B5.out 1).trans rfl
     ·exact (blk_cell B5.out 2).trans rfl
     ·exact (blk_cell B5.out 3).trans rfl
    have H := HA.out
    rw [columbariumref9_all_drop l0_1 K i (by have := HL.out; omega)] at H
    clear HA
    obtain ⟨t, ht, H⟩ := Option.bind_eq_some_iff.mp H
    generalize rd K (i : Int) = a at hcz ht
    unfold columbariumref9_unset at ht
    obtain ⟨ji7, hji7⟩ : ∃ j_ : Int, wrap64 (Int.tdiv a 8) = j_ := ⟨_, rfl⟩
    have hji7w : IntKind.i64.wrap (Int.tdiv a 8) = ji7 := (i64_w _).trans hji7
    rw [hji7] at ht
    by_cases c1 : 0 ≤ ji7
    ·rw [if_pos c1] at ht
     by_cases c2 : ji7 < (l0_1.length : Int)
     ·rw [if_pos c2] at ht
      obtain ⟨ad, e1, hx⟩ := Kd.at_int HR4.out ji7 c1 c2
      cases e1
      obtain ⟨ji8, hji8⟩ : ∃ j_ : Int, IntKind.u64.wrap (Int.tmod a 8) = j_ := ⟨_, rfl⟩
      rw [hji8] at ht
      have c3 : 0 ≤ ji8 := by
       rw [← hji8]
       simp only [IntKind.wrap, IntKind.bits, IntKind.signed]
       exact Int.emod_nonneg _ (by decide)
      have c3b : decide (0 ≤ ji8) = true := decide_eq_true c3
      replace c3 := eq_true c3
      obtain ⟨ji9, hji9⟩ : ∃ j_ : Int, shr .u8 (rd l0_1 ji7) ji8 = j_ := ⟨_, rfl⟩
      rw [hji9] at ht
      have hji9_ : (rd l0_1 ji7) / 2 ^ min ji8.toNat 8 = ji9 := hji9
      have ht := Option.some.inj ht
      have c1b : decide (0 ≤ ji7) = true := decide_eq_true c1
      have c2b : decide (ji7 < (l0_1.length : Int)) = true := decide_eq_true c2
      replace c1 := eq_true c1
      replace c2 := eq_true c2
      clear hji9
      cases t with
      | true =>
       rw [if_pos rfl] at H
       obtain rfl := Option.some.inj H
       clear H
       go_wp2
       go_quiet (fail)
       go_wp2
       go_ret
       exact ⟨rfl, by repeat (first | (with_reducible first | exact HB4.out | apply below_alloc | apply pw_below_drewN | apply below_drew1) | exact HB4.out)⟩
      | false =>
       rw [if_neg (by decide)] at H
       have HN := Aside0.mk H
       have hw : Aside0 (wrap64 ((i : Int) + 1) = ((i + 1 : Nat) : Int)) := ⟨by unfold wrap64; omega⟩
       clear H
       go_wp2
       go_quiet (fail)
       go_wp2
       go_roundg (4 - (i + 1))
       case measure => have := HI.out; omega
       case rel => exact ⟨i + 1, by first | rfl | rw [hw.out] | (simp; done), ⟨by omega, by omega⟩, HN, by repeat (first | exact Drawn0.refl _ | apply Drawn0.step)⟩
     ·rw [if_neg c2] at ht
      cases ht
    ·rw [if_neg c1] at ht
     cases ht
   ·have hi : i = 4 := by have := HI.out; omega
    subst hi
    have hlt : decide ((((4 : Nat) : Int)) < 4) = false := by decide
    have H := HA.out
    rw [List.drop_eq_nil_of_le (by have := HL.out; omega)] at H
    obtain rfl := Option.some.inj H
    clear H HA
    go_wp2
    go_ret
    exact ⟨rfl, by repeat (first | (with_reducible first | exact HB4.out | apply below_alloc | apply pw_below_drewN | apply below_drew1) | exact HB4.out)⟩

end Go.Proofs.Ytifcocmmapgebaa.QBloomTells
