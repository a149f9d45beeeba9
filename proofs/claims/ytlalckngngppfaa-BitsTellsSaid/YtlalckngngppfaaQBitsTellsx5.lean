-- Written by a program of this session (wip/myprint.py): the machine's side of a law
import Derived.Test.YtlalckngngppfaaQBitsTellsx0
import Derived.Test.YtlalckngngppfaaQBitsTellsx1
import Derived.Test.YtlalckngngppfaaQBitsTellsx2
import Derived.Test.YtlalckngngppfaaQBitsTellsx3
import Derived.Test.YtlalckngngppfaaQBitsTellsx4
namespace Go.Proofs.Ytlalckngngppfaa.QBitsTells
open Go.RowKit Go.Proofs.YtlalckngngppfaaW.PrintWords Go.Proofs.YtlalckngngppfaaW.PrintLast Go.Proofs.YtlalckngngppfaaW.PrintMore
attribute [local go_sem] max2_int min2_int max_two min_two max_three min_three max_four min_four   -- for this text's walks alone
set_option linter.unusedVariables false
set_option linter.unusedSimpArgs false

/-! ### columbariumlaw3_BitsTells: function 6 -/
def columbariumlaw3_BitsTells.j0 : Nat → List Int → Int → List Int → Int → List Int → Int → List Int → Int → Option (Bool)
  | 0, _, _, _, _, _, _, _, _ => none
  | k + 1, x0, x1, x2, x3, x9, x10, x11, x12 => (bits_Unpack.f k x2 x3 x1).bind fun bt157 => ((columbariumref3_Unpack.f k x2 x3 x1).bind fun bt161 => ((bits_Width.f k x0).bind fun t165 => ((columbariumref3_Width.f k x0).bind fun t166 => (if t165 = t166 then (if (strOfNums x9).toList = (strOfNums x11).toList then (if x10 = x12 then ((columbariumbook_Same_uint64.f k bt157.1 bt161.1).bind fun t167 => (if t167 = true then (if bt157.2 = bt161.2 then ((bits_Size.f x3 x1).bind fun t168 => ((columbariumref3_Size.f x3 x1).bind fun t169 => (if t168 = t169 then ((columbariumlaw3_known.f k).bind fun t170 => (some t170)) else (some false)))) else (some false)) else (some false))) else (some false)) else (some false)) else (some false)))))
def columbariumlaw3_BitsTells.f (k : Nat) (l0 : List Int) (a1 : Int) (l2 : List Int) (a3 : Int) : Option (Bool) := (columbariumlaw3_few.f l0).bind fun t146 => ((bits_Pack.f k t146 a1).bind fun bt149 => ((columbariumref3_Pack.f k t146 a1).bind fun bt153 => (if a3 > 5000 then (columbariumlaw3_BitsTells.j0 k t146 a1 l2 16777217 bt149.1 bt149.2 bt153.1 bt153.2) else (columbariumlaw3_BitsTells.j0 k t146 a1 l2 a3 bt149.1 bt149.2 bt153.1 bt153.2))))
theorem columbariumlaw3_BitsTells.mono_l : ∀ k, (∀ y0 y1 y2 y3 y4 y5 y6 y7, LeO (columbariumlaw3_BitsTells.j0 k y0 y1 y2 y3 y4 y5 y6 y7) (columbariumlaw3_BitsTells.j0 (k + 1) y0 y1 y2 y3 y4 y5 y6 y7))
  | 0 => fun _ _ _ _ _ _ _ _ r h => by simp [columbariumlaw3_BitsTells.j0] at h
  | k + 1 => by
    have ih0 := columbariumlaw3_BitsTells.mono_l k
    · intro y0 y1 y2 y3 y4 y5 y6 y7
      unfold columbariumlaw3_BitsTells.j0
      repeat' first
      | (with_reducible exact ih0 _ _ _ _ _ _ _ _)
      | (with_reducible exact bits_Pack.mono _ _ _)
      | (with_reducible exact bits_Unpack.mono _ _ _ _)
      | (with_reducible exact bits_Width.mono _ _)
      | (with_reducible exact columbariumbook_Same_uint64.mono _ _ _)
      | (with_reducible exact columbariumlaw3_known.mono _)
      | (with_reducible exact columbariumref3_Pack.mono _ _ _)
      | (with_reducible exact columbariumref3_Unpack.mono _ _ _ _)
      | (with_reducible exact columbariumref3_Width.mono _ _)
      | (with_reducible exact LeO.refl _)
      | (with_reducible exact LeO.none _)
      | (with_reducible refine LeO.ite ?_ ?_)
      | (with_reducible refine LeO.bind ?_ (fun _ => ?_))
      | exact ih0 _ _ _ _ _ _ _ _
      | exact bits_Pack.mono _ _ _
      | exact bits_Unpack.mono _ _ _ _
      | exact bits_Width.mono _ _
      | exact columbariumbook_Same_uint64.mono _ _ _
      | exact columbariumlaw3_known.mono _
      | exact columbariumref3_Pack.mono _ _ _
      | exact columbariumref3_Unpack.mono _ _ _ _
      | exact columbariumref3_Width.mono _ _
      | exact LeO.none _
      | refine LeO.ite ?_ ?_
      | refine LeO.bind ?_ (fun _ => ?_)
theorem columbariumlaw3_BitsTells.mono : ∀ a0 a1 a2 a3 k, LeO (columbariumlaw3_BitsTells.f k a0 a1 a2 a3) (columbariumlaw3_BitsTells.f (k + 1) a0 a1 a2 a3) := by
  intro a0 a1 a2 a3 k
  have ih0 := columbariumlaw3_BitsTells.mono_l k
  unfold columbariumlaw3_BitsTells.f
  repeat' first
      | (with_reducible exact ih0 _ _ _ _ _ _ _ _)
      | (with_reducible exact bits_Pack.mono _ _ _)
      | (with_reducible exact bits_Unpack.mono _ _ _ _)
      | (with_reducible exact bits_Width.mono _ _)
      | (with_reducible exact columbariumbook_Same_uint64.mono _ _ _)
      | (with_reducible exact columbariumlaw3_known.mono _)
      | (with_reducible exact columbariumref3_Pack.mono _ _ _)
      | (with_reducible exact columbariumref3_Unpack.mono _ _ _ _)
      | (with_reducible exact columbariumref3_Width.mono _ _)
      | (with_reducible exact LeO.refl _)
      | (with_reducible exact LeO.none _)
      | (with_reducible refine LeO.ite ?_ ?_)
      | (with_reducible refine LeO.bind ?_ (fun _ => ?_))
      | exact ih0 _ _ _ _ _ _ _ _
      | exact bits_Pack.mono _ _ _
      | exact bits_Unpack.mono _ _ _ _
      | exact bits_Width.mono _ _
      | exact columbariumbook_Same_uint64.mono _ _ _
      | exact columbariumlaw3_known.mono _
      | exact columbariumref3_Pack.mono _ _ _
      | exact columbariumref3_Unpack.mono _ _ _ _
      | exact columbariumref3_Width.mono _ _
      | exact LeO.none _
      | refine LeO.ite ?_ ?_
      | refine LeO.bind ?_ (fun _ => ?_)
set_option maxHeartbeats 8000000 in
set_option maxRecDepth 100000 in
theorem columbariumlaw3_BitsTells.calls (k : Nat) (A0 : Option Addr) (c0 : Nat) (l0 : List Int) (a1 : Int) (A2 : Option Addr) (c2 : Nat) (l2 : List Int) (a3 : Int) (r : Bool) (w : World) (hr0 : Kd.C (Kd.int .u64) w A0 l0.length l0) (hc0 : l0.length ≤ c0) (hr2 : Kd.C (Kd.int .u8) w A2 l2.length l2) (hc2 : l2.length ≤ c2) (hrt_ : Aside0 (r = true)) (h : columbariumlaw3_BitsTells.f k l0 a1 l2 a3 = some r) :
    Calls Try.prog 6 #[.slice A0 l0.length c0, .int .i64 a1, .slice A2 l2.length c2, .int .i64 a3] w fun e w' => e = .returned (.bool r) ∧ Below w.heap.size w w' := by
  have HR0 := Aside0.mk hr0
  have HC0 := Aside0.mk hc0
  clear hr0 hc0
  have HR2 := Aside0.mk hr2
  have HC2 := Aside0.mk hc2
  clear hr2 hc2
  have HB := Aside0.mk (Below.refl w.heap.size w)
  have H : ((columbariumlaw3_few.f l0).bind fun t146 => ((bits_Pack.f k t146 a1).bind fun bt149 => ((columbariumref3_Pack.f k t146 a1).bind fun bt153 => (if a3 > 5000 then (columbariumlaw3_BitsTells.j0 k t146 a1 l2 16777217 bt149.1 bt149.2 bt153.1 bt153.2) else (columbariumlaw3_BitsTells.j0 k t146 a1 l2 a3 bt149.1 bt149.2 bt153.1 bt153.2))))) = some r := h
  clear h
  replace H := Option.bind_eq_some_iff.mp H
  obtain ⟨t146, A50, H⟩ := H
  replace H : ((bits_Pack.f k t146 a1).bind fun bt149 => ((columbariumref3_Pack.f k t146 a1).bind fun bt153 => (if a3 > 5000 then (columbariumlaw3_BitsTells.j0 k t146 a1 l2 16777217 bt149.1 bt149.2 bt153.1 bt153.2) else (columbariumlaw3_BitsTells.j0 k t146 a1 l2 a3 bt149.1 bt149.2 bt153.1 bt153.2)))) = some r := H
  have A5 := Aside0.mk A50
  clear A50
  replace H := Option.bind_eq_some_iff.mp H
  obtain ⟨⟨t149, t150⟩, A60, H⟩ := H
  replace H : ((columbariumref3_Pack.f k t146 a1).bind fun bt153 => (if a3 > 5000 then (columbariumlaw3_BitsTells.j0 k t146 a1 l2 16777217 t149 t150 bt153.1 bt153.2) else (columbariumlaw3_BitsTells.j0 k t146 a1 l2 a3 t149 t150 bt153.1 bt153.2))) = some r := H
  have A6 := Aside0.mk A60
  clear A60
  replace H := Option.bind_eq_some_iff.mp H
  obtain ⟨⟨t153, t154⟩, A70, H⟩ := H
  replace H : (if a3 > 5000 then (columbariumlaw3_BitsTells.j0 k t146 a1 l2 16777217 t149 t150 t153 t154) else (columbariumlaw3_BitsTells.j0 k t146 a1 l2 a3 t149 t150 t153 t154)) = some r := H
  have A7 := Aside0.mk A70
  clear A70
  have HC8 := Aside0.mk H
  clear H
  go_enter Try.func6, Try.ntmps6
  go_upto_if 32 with (first | ((with_reducible refine gate_callee (f := 9) rfl ?_); refine goesL_ (some 18) rfl rfl Try.func9 (by kernel_rfl) rfl #[.slice A0 l0.length c0] rfl (by (try simp only [List.map_toArray, List.map_cons, List.map_nil]); first | done | rfl | (simp only [List.length_drop, List.length_take]; rfl)) ?_; (with_reducible refine (columbariumlaw3_few.calls (fun k_ => k_ < w.heap.size) _ _ l0 t146 _ ?side1 A5.out).mono ?_); (case side1 => exact Kd.V_mk HC0.out (Kd.F_below (Kd.C_F (Kd.heap_int .u64) HR0.out) (by repeat (first | (with_reducible first | exact HB.out | apply below_alloc | apply pw_below_drewN | apply below_drew1) | exact HB.out)))); rintro e w9 ⟨v147, rfl, ho0, hb⟩; refine ⟨_, rfl, ?_⟩; have n0_ := Aside0.mk (Kd.V_lower (Kd.V_mono (ok' := fun k_ => True) ho0 (fun k_ hk_ => trivial)) (below_size (by repeat (first | (with_reducible first | exact HB.out | apply below_alloc | apply pw_below_drewN | apply below_drew1) | exact HB.out)))); have n1_ := Aside0.mk (below_step (by repeat (first | (with_reducible first | exact HB.out | apply below_alloc | apply pw_below_drewN | apply below_drew1) | exact HB.out)) hb); clear HB; have HO148 := n0_; have HB := n1_; clear n0_ n1_; (try clear hb); (try clear hb2); (try clear hk); (try clear hi); (try clear ho0); obtain ⟨Ao10, co10, eo10⟩ := Kd.V_slice HO148.out; subst eo10) | ((with_reducible refine gate_callee (f := 11) rfl ?_); refine goesL_ (some 22) rfl rfl Try.func11 (by kernel_rfl) rfl #[.slice Ao10 t146.length co10, .int .i64 a1] rfl (by (try simp only [List.map_toArray, List.map_cons, List.map_nil]); first | done | rfl | (simp only [List.length_drop, List.length_take]; rfl)) ?_; (with_reducible refine (bits_Pack.calls k _ _ t146 a1 t149 t150 _ ?side1 ?side2 A6.out).mono ?_); (case side1 => repeat (first | exact (Kd.V_reads' HO148.out).2.2 | (with_reducible refine Kd.C_alloc ?_ _) | (with_reducible refine Kd.C_drewN ?_ _) | (with_reducible refine Kd.C_drew ?_))); (case side2 => exact (Kd.V_reads' HO148.out).2.1); rintro e w11 ⟨v151, rfl, ho0, hb⟩; refine ⟨_, rfl, ?_⟩; have n0_ := Aside0.mk (Kd.V_elder' (by (with_reducible repeat (first | apply Kd.V_alloc | apply Kd.V_drewN | apply Kd.V_drew)); exact HO148.out) (Kd.R_base ho0) hb); have n1_ := Aside0.mk (Kd.R_lower ho0 (below_size (by repeat (first | (with_reducible first | exact HB.out | apply below_alloc | apply pw_below_drewN | apply below_drew1) | exact HB.out)))); have n2_ := Aside0.mk (below_step (by repeat (first | (with_reducible first | exact HB.out | apply below_alloc | apply pw_below_drewN | apply below_drew1) | exact HB.out)) hb); clear HO148; clear HB; have HO148 := n0_; have HO152 := n1_; have HB := n2_; clear n0_ n1_ n2_; (try clear hb); (try clear hb2); (try clear hk); (try clear hi); (try clear ho0)) | ((with_reducible refine gate_callee (f := 16) rfl ?_); refine goesL_ (some 28) rfl rfl Try.func16 (by kernel_rfl) rfl #[.slice Ao10 t146.length co10, .int .i64 a1] rfl (by (try simp only [List.map_toArray, List.map_cons, List.map_nil]); first | done | rfl | (simp only [List.length_drop, List.length_take]; rfl)) ?_; (with_reducible refine (columbariumref3_Pack.calls k _ _ t146 a1 t153 t154 _ ?side1 ?side2 A7.out).mono ?_); (case side1 => repeat (first | exact (Kd.V_reads' HO148.out).2.2 | (with_reducible refine Kd.C_alloc ?_ _) | (with_reducible refine Kd.C_drewN ?_ _) | (with_reducible refine Kd.C_drew ?_))); (case side2 => exact (Kd.V_reads' HO148.out).2.1); rintro e w12 ⟨v155, rfl, ho0, hb⟩; refine ⟨_, rfl, ?_⟩; have n0_ := Aside0.mk (Kd.V_elder' (by (with_reducible repeat (first | apply Kd.V_alloc | apply Kd.V_drewN | apply Kd.V_drew)); exact HO148.out) (Kd.R_base ho0) hb); have n1_ := Aside0.mk (Kd.R_elder' (by (with_reducible repeat (first | apply Kd.R_alloc | apply Kd.R_drewN | apply Kd.R_drew)); exact HO152.out) (Kd.R_base ho0) hb); have n2_ := Aside0.mk (Kd.R_lower (Kd.R_new' ho0 (Kd.R_lt (by (with_reducible repeat (first | apply Kd.R_alloc | apply Kd.R_drewN | apply Kd.R_drew)); exact HO152.out))) (below_size (by repeat (first | (with_reducible first | exact HB.out | apply below_alloc | apply pw_below_drewN | apply below_drew1) | exact HB.out)))); have n3_ := Aside0.mk (below_step (by repeat (first | (with_reducible first | exact HB.out | apply below_alloc | apply pw_below_drewN | apply below_drew1) | exact HB.out)) hb); clear HO148; clear HO152; clear HB; have HO148 := n0_; have HO152 := n1_; have HO156 := n2_; have HB := n3_; clear n0_ n1_ n2_ n3_; (try clear hb); (try clear hb2); (try clear hk); (try clear hi); (try clear ho0)))
  (try simp only [Act.put, List.setIfInBounds_toArray, List.set_cons_zero, List.set_cons_succ])
  go_cut [3] (fun v3 wc => ∃ (kq : Nat) (x3_7 : Int), v3 = .int .i64 x3_7 ∧ Aside0 (columbariumlaw3_BitsTells.j0 kq t146 a1 l2 x3_7 t149 t150 t153 t154 = some r) ∧ Aside0 (kq ≤ k) ∧ Aside0 (Kd.V (Kd.int .u64) 29 wc w.heap.size (fun k_ => some k_ ≠ (v151 : Value).ownBlock ∧ some k_ ≠ (v155 : Value).ownBlock) (.slice Ao10 t146.length co10) t146) ∧ Aside0 (Kd.R (Kd.int .u8) 5 wc w.heap.size (fun k_ => some k_ ≠ (v155 : Value).ownBlock) v151 t149) ∧ Aside0 (Kd.R (Kd.int .u8) 5 wc w.heap.size (fun k_ => some k_ ≠ (v151 : Value).ownBlock) v155 t153) ∧ Aside0 (Below w.heap.size w wc))
  case first =>
    have H := HC8.out
    clear HC8
    by_cases c13 : a3 > 5000
    · rw [if_pos c13] at H
      have c13b0 : decide (5000 < a3) = true := decide_eq_true c13
      clear c13
      (first | rw [c13b0] | (simp only [i64_w, i32_w]; rw [c13b0]) | skip)
      have H' := Aside0.mk H
      clear H
      go_wp2
      go_meet
      case rel => exact ⟨_, (16777217), (by first | rfl | (simp; done) | (simp [*]; done)), H', ⟨by first | omega | exact Nat.le_refl _⟩, ⟨by (with_reducible repeat (first | apply Kd.V_alloc | apply Kd.V_drewN | apply Kd.V_drew)); exact Kd.V_mono HO148.out (fun _ hk => ⟨hk.1.2, hk.2⟩)⟩, ⟨by (with_reducible repeat (first | apply Kd.R_alloc | apply Kd.R_drewN | apply Kd.R_drew)); exact Kd.R_mono HO152.out (fun _ hk => hk.2)⟩, ⟨by (with_reducible repeat (first | apply Kd.R_alloc | apply Kd.R_drewN | apply Kd.R_drew)); exact Kd.R_mono HO156.out (fun _ hk => hk.2)⟩, ⟨by repeat (first | (with_reducible first | exact HB.out | apply below_alloc | apply pw_below_drewN | apply below_drew1) | exact HB.out)⟩⟩
    · rw [if_neg c13] at H
      have c13b0 : decide (5000 < a3) = false := decide_eq_false c13
      clear c13
      (first | rw [c13b0] | (simp only [i64_w, i32_w]; rw [c13b0]) | skip)
      have H' := Aside0.mk H
      clear H
      go_wp2
      go_meet
      case rel => exact ⟨_, (a3), (by first | rfl | (simp; done) | (simp [*]; done)), H', ⟨by first | omega | exact Nat.le_refl _⟩, ⟨by (with_reducible repeat (first | apply Kd.V_alloc | apply Kd.V_drewN | apply Kd.V_drew)); exact Kd.V_mono HO148.out (fun _ hk => ⟨hk.1.2, hk.2⟩)⟩, ⟨by (with_reducible repeat (first | apply Kd.R_alloc | apply Kd.R_drewN | apply Kd.R_drew)); exact Kd.R_mono HO152.out (fun _ hk => hk.2)⟩, ⟨by (with_reducible repeat (first | apply Kd.R_alloc | apply Kd.R_drewN | apply Kd.R_drew)); exact Kd.R_mono HO156.out (fun _ hk => hk.2)⟩, ⟨by repeat (first | (with_reducible first | exact HB.out | apply below_alloc | apply pw_below_drewN | apply below_drew1) | exact HB.out)⟩⟩
  case rest =>
    clear HC8
    try clear c1
    try clear c2
    try clear p2
    try clear c6
    try clear c9
    try clear c11
    try clear c13
    try clear c13b0
    obtain ⟨kq, x3_7, rfl, HA, HJ7, HO_0, HO_9, HO_11, HB⟩ := hcut
    cases kq with
    | zero => exact absurd HA.out (by simp [columbariumlaw3_BitsTells.j0])
    | succ kj7 =>
      have H := HA.out
      clear HA
      simp only [columbariumlaw3_BitsTells.j0] at H
      replace H := Option.bind_eq_some_iff.mp H
      obtain ⟨⟨t157, t158⟩, A140, H⟩ := H
      replace H : ((columbariumref3_Unpack.f kj7 l2 x3_7 a1).bind fun bt161 => ((bits_Width.f kj7 t146).bind fun t165 => ((columbariumref3_Width.f kj7 t146).bind fun t166 => (if t165 = t166 then (if (strOfNums t149).toList = (strOfNums t153).toList then (if t150 = t154 then ((columbariumbook_Same_uint64.f kj7 t157 bt161.1).bind fun t167 => (if t167 = true then (if t158 = bt161.2 then ((bits_Size.f x3_7 a1).bind fun t168 => ((columbariumref3_Size.f x3_7 a1).bind fun t169 => (if t168 = t169 then ((columbariumlaw3_known.f kj7).bind fun t170 => (some t170)) else (some false)))) else (some false)) else (some false))) else (some false)) else (some false)) else (some false))))) = some r := H
      have A14 := Aside0.mk A140
      clear A140
      replace H := Option.bind_eq_some_iff.mp H
      obtain ⟨⟨t161, t162⟩, A150, H⟩ := H
      replace H : ((bits_Width.f kj7 t146).bind fun t165 => ((columbariumref3_Width.f kj7 t146).bind fun t166 => (if t165 = t166 then (if (strOfNums t149).toList = (strOfNums t153).toList then (if t150 = t154 then ((columbariumbook_Same_uint64.f kj7 t157 t161).bind fun t167 => (if t167 = true then (if t158 = t162 then ((bits_Size.f x3_7 a1).bind fun t168 => ((columbariumref3_Size.f x3_7 a1).bind fun t169 => (if t168 = t169 then ((columbariumlaw3_known.f kj7).bind fun t170 => (some t170)) else (some false)))) else (some false)) else (some false))) else (some false)) else (some false)) else (some false)))) = some r := H
      have A15 := Aside0.mk A150
      clear A150
      replace H := Option.bind_eq_some_iff.mp H
      obtain ⟨t165, A160, H⟩ := H
      replace H : ((columbariumref3_Width.f kj7 t146).bind fun t166 => (if t165 = t166 then (if (strOfNums t149).toList = (strOfNums t153).toList then (if t150 = t154 then ((columbariumbook_Same_uint64.f kj7 t157 t161).bind fun t167 => (if t167 = true then (if t158 = t162 then ((bits_Size.f x3_7 a1).bind fun t168 => ((columbariumref3_Size.f x3_7 a1).bind fun t169 => (if t168 = t169 then ((columbariumlaw3_known.f kj7).bind fun t170 => (some t170)) else (some false)))) else (some false)) else (some false))) else (some false)) else (some false)) else (some false))) = some r := H
      have A16 := Aside0.mk A160
      clear A160
      replace H := Option.bind_eq_some_iff.mp H
      obtain ⟨t166, A170, H⟩ := H
      replace H : (if t165 = t166 then (if (strOfNums t149).toList = (strOfNums t153).toList then (if t150 = t154 then ((columbariumbook_Same_uint64.f kj7 t157 t161).bind fun t167 => (if t167 = true then (if t158 = t162 then ((bits_Size.f x3_7 a1).bind fun t168 => ((columbariumref3_Size.f x3_7 a1).bind fun t169 => (if t168 = t169 then ((columbariumlaw3_known.f kj7).bind fun t170 => (some t170)) else (some false)))) else (some false)) else (some false))) else (some false)) else (some false)) else (some false)) = some r := H
      have A17 := Aside0.mk A170
      clear A170
      by_cases c18 : t165 = t166
      · rw [if_pos c18] at H
        have c18b0 : (t165 == t166) = true := beq_iff_eq.mpr c18
        have c18b1 : (t165 != t166) = false := bne_eq_false_iff_eq.mpr c18
        clear c18
        by_cases c19 : (strOfNums t149).toList = (strOfNums t153).toList
        · rw [if_pos c19] at H
          have c19b0 : ((strOfNums t149).toList == (strOfNums t153).toList) = true := beq_iff_eq.mpr c19
          have c19b1 : ((strOfNums t149).toList != (strOfNums t153).toList) = false := bne_eq_false_iff_eq.mpr c19
          clear c19
          by_cases c20 : t150 = t154
          · rw [if_pos c20] at H
            have c20b0 : (t150 == t154) = true := beq_iff_eq.mpr c20
            have c20b1 : (t150 != t154) = false := bne_eq_false_iff_eq.mpr c20
            clear c20
            replace H := Option.bind_eq_some_iff.mp H
            obtain ⟨t167, A210, H⟩ := H
            replace H : (if t167 = true then (if t158 = t162 then ((bits_Size.f x3_7 a1).bind fun t168 => ((columbariumref3_Size.f x3_7 a1).bind fun t169 => (if t168 = t169 then ((columbariumlaw3_known.f kj7).bind fun t170 => (some t170)) else (some false)))) else (some false)) else (some false)) = some r := H
            have A21 := Aside0.mk A210
            clear A210
            by_cases c22 : t167 = true
            · subst c22
              have H1 : (if t158 = t162 then ((bits_Size.f x3_7 a1).bind fun t168 => ((columbariumref3_Size.f x3_7 a1).bind fun t169 => (if t168 = t169 then ((columbariumlaw3_known.f kj7).bind fun t170 => (some t170)) else (some false)))) else (some false)) = some r := by rw [if_pos rfl] at H; exact H
              clear H
              have H := H1
              clear H1
              by_cases c23 : t158 = t162
              · rw [if_pos c23] at H
                have c23b0 : (t158 == t162) = true := beq_iff_eq.mpr c23
                have c23b1 : (t158 != t162) = false := bne_eq_false_iff_eq.mpr c23
                clear c23
                replace H := Option.bind_eq_some_iff.mp H
                obtain ⟨t168, A240, H⟩ := H
                replace H : ((columbariumref3_Size.f x3_7 a1).bind fun t169 => (if t168 = t169 then ((columbariumlaw3_known.f kj7).bind fun t170 => (some t170)) else (some false))) = some r := H
                have A24 := Aside0.mk A240
                clear A240
                replace H := Option.bind_eq_some_iff.mp H
                obtain ⟨t169, A250, H⟩ := H
                replace H : (if t168 = t169 then ((columbariumlaw3_known.f kj7).bind fun t170 => (some t170)) else (some false)) = some r := H
                have A25 := Aside0.mk A250
                clear A250
                by_cases c26 : t168 = t169
                · rw [if_pos c26] at H
                  have c26b0 : (t168 == t169) = true := beq_iff_eq.mpr c26
                  have c26b1 : (t168 != t169) = false := bne_eq_false_iff_eq.mpr c26
                  clear c26
                  replace H := Option.bind_eq_some_iff.mp H
                  obtain ⟨t170, A270, H⟩ := H
                  replace H : (some t170) = some r := H
                  have A27 := Aside0.mk A270
                  clear A270
                  obtain rfl := Option.some.inj H
                  go_wp2_with (first | ((with_reducible refine gate_callee (f := 14) rfl ?_); refine goesL_ (some 37) rfl rfl Try.func14 (by kernel_rfl) rfl #[.slice A2 l2.length c2, .int .i64 x3_7, .int .i64 a1] rfl (by (try simp only [List.map_toArray, List.map_cons, List.map_nil]); first | done | rfl | (simp only [List.length_drop, List.length_take]; rfl)) ?_; (with_reducible refine (bits_Unpack.calls kj7 _ _ l2 x3_7 a1 t157 t158 _ ?side1 ?side2 A14.out).mono ?_); (case side1 => repeat (first | exact (Kd.C_below HR2.out HB.out) | (with_reducible refine Kd.C_alloc ?_ _) | (with_reducible refine Kd.C_drewN ?_ _) | (with_reducible refine Kd.C_drew ?_))); (case side2 => exact HC2.out); rintro e w28 ⟨v159, rfl, ho0, hb⟩; refine ⟨_, rfl, ?_⟩; have n0_ := Aside0.mk (Kd.V_elder' (by (with_reducible repeat (first | apply Kd.V_alloc | apply Kd.V_drewN | apply Kd.V_drew)); exact HO_0.out) (Kd.R_base ho0) hb); have n1_ := Aside0.mk (Kd.R_below (by (with_reducible repeat (first | apply Kd.R_alloc | apply Kd.R_drewN | apply Kd.R_drew)); exact HO_9.out) hb); have n2_ := Aside0.mk (Kd.R_below (by (with_reducible repeat (first | apply Kd.R_alloc | apply Kd.R_drewN | apply Kd.R_drew)); exact HO_11.out) hb); have n3_ := Aside0.mk (Kd.R_lower ho0 (below_size (by repeat (first | (with_reducible first | exact HB.out | apply below_alloc | apply pw_below_drewN | apply below_drew1) | exact HB.out)))); have n4_ := Aside0.mk (below_step (by repeat (first | (with_reducible first | exact HB.out | apply below_alloc | apply pw_below_drewN | apply below_drew1) | exact HB.out)) hb); clear HO_0; clear HO_9; clear HO_11; clear HB; have HO_0 := n0_; have HO_9 := n1_; have HO_11 := n2_; have HO160 := n3_; have HB := n4_; clear n0_ n1_ n2_ n3_ n4_; (try clear hb); (try clear hb2); (try clear hk); (try clear hi); (try clear ho0)) | ((with_reducible refine gate_callee (f := 17) rfl ?_); refine goesL_ (some 44) rfl rfl Try.func17 (by kernel_rfl) rfl #[.slice A2 l2.length c2, .int .i64 x3_7, .int .i64 a1] rfl (by (try simp only [List.map_toArray, List.map_cons, List.map_nil]); first | done | rfl | (simp only [List.length_drop, List.length_take]; rfl)) ?_; (with_reducible refine (columbariumref3_Unpack.calls kj7 _ _ l2 x3_7 a1 t161 t162 _ ?side1 ?side2 A15.out).mono ?_); (case side1 => repeat (first | exact (Kd.C_below HR2.out HB.out) | (with_reducible refine Kd.C_alloc ?_ _) | (with_reducible refine Kd.C_drewN ?_ _) | (with_reducible refine Kd.C_drew ?_))); (case side2 => exact HC2.out); rintro e w29 ⟨v163, rfl, ho0, hb⟩; refine ⟨_, rfl, ?_⟩; have n0_ := Aside0.mk (Kd.V_elder' (by (with_reducible repeat (first | apply Kd.V_alloc | apply Kd.V_drewN | apply Kd.V_drew)); exact HO_0.out) (Kd.R_base ho0) hb); have n1_ := Aside0.mk (Kd.R_below (by (with_reducible repeat (first | apply Kd.R_alloc | apply Kd.R_drewN | apply Kd.R_drew)); exact HO_9.out) hb); have n2_ := Aside0.mk (Kd.R_below (by (with_reducible repeat (first | apply Kd.R_alloc | apply Kd.R_drewN | apply Kd.R_drew)); exact HO_11.out) hb); have n3_ := Aside0.mk (Kd.R_elder' (by (with_reducible repeat (first | apply Kd.R_alloc | apply Kd.R_drewN | apply Kd.R_drew)); exact HO160.out) (Kd.R_base ho0) hb); have n4_ := Aside0.mk (Kd.R_lower (Kd.R_new' ho0 (Kd.R_lt (by (with_reducible repeat (first | apply Kd.R_alloc | apply Kd.R_drewN | apply Kd.R_drew)); exact HO160.out))) (below_size (by repeat (first | (with_reducible first | exact HB.out | apply below_alloc | apply pw_below_drewN | apply below_drew1) | exact HB.out)))); have n5_ := Aside0.mk (below_step (by repeat (first | (with_reducible first | exact HB.out | apply below_alloc | apply pw_below_drewN | apply below_drew1) | exact HB.out)) hb); clear HO_0; clear HO_9; clear HO_11; clear HO160; clear HB; have HO_0 := n0_; have HO_9 := n1_; have HO_11 := n2_; have HO160 := n3_; have HO164 := n4_; have HB := n5_; clear n0_ n1_ n2_ n3_ n4_ n5_; (try clear hb); (try clear hb2); (try clear hk); (try clear hi); (try clear ho0)) | ((with_reducible refine gate_callee (f := 10) rfl ?_); refine goesL_ (some 48) rfl rfl Try.func10 (by kernel_rfl) rfl #[.slice Ao10 t146.length co10] rfl (by (try simp only [List.map_toArray, List.map_cons, List.map_nil]); first | done | rfl | (simp only [List.length_drop, List.length_take]; rfl)) ?_; (with_reducible refine (bits_Width.calls kj7 _ _ t146 t165 _ ?side1 ?side2 A16.out).mono ?_); (case side1 => repeat (first | exact (Kd.V_reads' HO_0.out).2.2 | (with_reducible refine Kd.C_alloc ?_ _) | (with_reducible refine Kd.C_drewN ?_ _) | (with_reducible refine Kd.C_drew ?_))); (case side2 => exact (Kd.V_reads' HO_0.out).2.1); rintro e w' ⟨rfl, ⟨nd, rfl⟩⟩; refine ⟨_, rfl, ?_⟩; (try (rw [drewN_self w29]; generalize hq_ : World.drewN w29 _ = w29; have n0_ : Aside0 (Kd.R (Kd.int .u64) 29 w29 w.heap.size (fun k_ => (True ∧ some k_ ≠ (v163 : Value).ownBlock)) v159 t157) := ⟨by rw [← hq_]; exact (by (with_reducible repeat (first | apply Kd.R_alloc | apply Kd.R_drewN | apply Kd.R_drew)); exact HO160.out)⟩; have n1_ : Aside0 (Kd.R (Kd.int .u64) 29 w29 w.heap.size (fun k_ => (True ∧ some k_ ≠ (v159 : Value).ownBlock)) v163 t161) := ⟨by rw [← hq_]; exact (by (with_reducible repeat (first | apply Kd.R_alloc | apply Kd.R_drewN | apply Kd.R_drew)); exact HO164.out)⟩; have n2_ : Aside0 (Kd.V (Kd.int .u64) 29 w29 w.heap.size (fun k_ => (((some k_ ≠ (v151 : Value).ownBlock ∧ some k_ ≠ (v155 : Value).ownBlock) ∧ some k_ ≠ (v159 : Value).ownBlock) ∧ some k_ ≠ (v163 : Value).ownBlock)) (.slice Ao10 t146.length co10) t146) := ⟨by rw [← hq_]; exact (by (with_reducible repeat (first | apply Kd.V_alloc | apply Kd.V_drewN | apply Kd.V_drew)); exact HO_0.out)⟩; have n3_ : Aside0 (Kd.R (Kd.int .u8) 5 w29 w.heap.size (fun k_ => some k_ ≠ (v151 : Value).ownBlock) v155 t153) := ⟨by rw [← hq_]; exact (by (with_reducible repeat (first | apply Kd.R_alloc | apply Kd.R_drewN | apply Kd.R_drew)); exact HO_11.out)⟩; have n4_ : Aside0 (Kd.R (Kd.int .u8) 5 w29 w.heap.size (fun k_ => some k_ ≠ (v155 : Value).ownBlock) v151 t149) := ⟨by rw [← hq_]; exact (by (with_reducible repeat (first | apply Kd.R_alloc | apply Kd.R_drewN | apply Kd.R_drew)); exact HO_9.out)⟩; have n5_ : Aside0 (Below w.heap.size w w29) := ⟨by rw [← hq_]; exact (by repeat (first | (with_reducible first | exact HB.out | apply below_alloc | apply pw_below_drewN | apply below_drew1) | exact HB.out))⟩; clear HO160 HO164 HO_0 HO_11 HO_9 HB hq_; have HO160 := n0_; have HO164 := n1_; have HO_0 := n2_; have HO_11 := n3_; have HO_9 := n4_; have HB := n5_; clear n0_ n1_ n2_ n3_ n4_ n5_))) | ((with_reducible refine gate_callee (f := 18) rfl ?_); refine goesL_ (some 50) rfl rfl Try.func18 (by kernel_rfl) rfl #[.slice Ao10 t146.length co10] rfl (by (try simp only [List.map_toArray, List.map_cons, List.map_nil]); first | done | rfl | (simp only [List.length_drop, List.length_take]; rfl)) ?_; (with_reducible refine (columbariumref3_Width.calls kj7 _ _ t146 t166 _ ?side1 ?side2 A17.out).mono ?_); (case side1 => repeat (first | exact (Kd.V_reads' HO_0.out).2.2 | (with_reducible refine Kd.C_alloc ?_ _) | (with_reducible refine Kd.C_drewN ?_ _) | (with_reducible refine Kd.C_drew ?_))); (case side2 => exact (Kd.V_reads' HO_0.out).2.1); rintro e w' ⟨rfl, ⟨nd, rfl⟩⟩; refine ⟨_, rfl, ?_⟩; (try (rw [drewN_self w29]; generalize hq_ : World.drewN w29 _ = w29; have n0_ : Aside0 (Kd.R (Kd.int .u64) 29 w29 w.heap.size (fun k_ => (True ∧ some k_ ≠ (v163 : Value).ownBlock)) v159 t157) := ⟨by rw [← hq_]; exact (by (with_reducible repeat (first | apply Kd.R_alloc | apply Kd.R_drewN | apply Kd.R_drew)); exact HO160.out)⟩; have n1_ : Aside0 (Kd.R (Kd.int .u64) 29 w29 w.heap.size (fun k_ => (True ∧ some k_ ≠ (v159 : Value).ownBlock)) v163 t161) := ⟨by rw [← hq_]; exact (by (with_reducible repeat (first | apply Kd.R_alloc | apply Kd.R_drewN | apply Kd.R_drew)); exact HO164.out)⟩; have n2_ : Aside0 (Kd.V (Kd.int .u64) 29 w29 w.heap.size (fun k_ => (((some k_ ≠ (v151 : Value).ownBlock ∧ some k_ ≠ (v155 : Value).ownBlock) ∧ some k_ ≠ (v159 : Value).ownBlock) ∧ some k_ ≠ (v163 : Value).ownBlock)) (.slice Ao10 t146.length co10) t146) := ⟨by rw [← hq_]; exact (by (with_reducible repeat (first | apply Kd.V_alloc | apply Kd.V_drewN | apply Kd.V_drew)); exact HO_0.out)⟩; have n3_ : Aside0 (Kd.R (Kd.int .u8) 5 w29 w.heap.size (fun k_ => some k_ ≠ (v151 : Value).ownBlock) v155 t153) := ⟨by rw [← hq_]; exact (by (with_reducible repeat (first | apply Kd.R_alloc | apply Kd.R_drewN | apply Kd.R_drew)); exact HO_11.out)⟩; have n4_ : Aside0 (Kd.R (Kd.int .u8) 5 w29 w.heap.size (fun k_ => some k_ ≠ (v155 : Value).ownBlock) v151 t149) := ⟨by rw [← hq_]; exact (by (with_reducible repeat (first | apply Kd.R_alloc | apply Kd.R_drewN | apply Kd.R_drew)); exact HO_9.out)⟩; have n5_ : Aside0 (Below w.heap.size w w29) := ⟨by rw [← hq_]; exact (by repeat (first | (with_reducible first | exact HB.out | apply below_alloc | apply pw_below_drewN | apply below_drew1) | exact HB.out))⟩; clear HO160 HO164 HO_0 HO_11 HO_9 HB hq_; have HO160 := n0_; have HO164 := n1_; have HO_0 := n2_; have HO_11 := n3_; have HO_9 := n4_; have HB := n5_; clear n0_ n1_ n2_ n3_ n4_ n5_)); have hcv30 := own_string (P := Try.prog) Try.underlying25 Try.underlying5 Try.underlying9 (Kd.own_of_R HO_9.out); have hcv31 := own_string (P := Try.prog) Try.underlying25 Try.underlying5 Try.underlying9 (Kd.own_of_R HO_11.out); obtain ⟨Ao32, co32, eo32⟩ := Kd.R_slice HO160.out; subst eo32; obtain ⟨Ao33, co33, eo33⟩ := Kd.R_slice HO164.out; subst eo33) | (go_at_call 19; (with_reducible refine (columbariumbook_Same_uint64.calls kj7 _ _ t157 _ _ t161 true _ ?side1 ?side2 ?side3 ?side4 A21.out).mono ?_); (case side1 => repeat (first | exact (Kd.R_reads' HO160.out).2.2 | (with_reducible refine Kd.C_alloc ?_ _) | (with_reducible refine Kd.C_drewN ?_ _) | (with_reducible refine Kd.C_drew ?_))); (case side2 => exact (Kd.R_reads' HO160.out).2.1); (case side3 => repeat (first | exact (Kd.R_reads' HO164.out).2.2 | (with_reducible refine Kd.C_alloc ?_ _) | (with_reducible refine Kd.C_drewN ?_ _) | (with_reducible refine Kd.C_drew ?_))); (case side4 => exact (Kd.R_reads' HO164.out).2.1); rintro e w' ⟨rfl, ⟨nd, rfl⟩⟩) | (go_at_call 15; (with_reducible refine (bits_Size.calls x3_7 a1 t168 _ A24.out).mono ?_); rintro e w' ⟨rfl, ⟨nd, rfl⟩⟩) | (go_at_call 20; (with_reducible refine (columbariumref3_Size.calls x3_7 a1 t169 _ A25.out).mono ?_); rintro e w' ⟨rfl, ⟨nd, rfl⟩⟩) | (go_at_call 12; (with_reducible refine (columbariumlaw3_known.calls kj7  t170 _ A27.out).mono ?_); rintro e w34 ⟨rfl, hb⟩; have n0_ := Aside0.mk (Kd.V_below (by (with_reducible repeat (first | apply Kd.V_alloc | apply Kd.V_drewN | apply Kd.V_drew)); exact HO_0.out) hb); have n1_ := Aside0.mk (Kd.R_below (by (with_reducible repeat (first | apply Kd.R_alloc | apply Kd.R_drewN | apply Kd.R_drew)); exact HO_9.out) hb); have n2_ := Aside0.mk (Kd.R_below (by (with_reducible repeat (first | apply Kd.R_alloc | apply Kd.R_drewN | apply Kd.R_drew)); exact HO_11.out) hb); have n3_ := Aside0.mk (Kd.R_below (by (with_reducible repeat (first | apply Kd.R_alloc | apply Kd.R_drewN | apply Kd.R_drew)); exact HO160.out) hb); have n4_ := Aside0.mk (Kd.R_below (by (with_reducible repeat (first | apply Kd.R_alloc | apply Kd.R_drewN | apply Kd.R_drew)); exact HO164.out) hb); have n5_ := Aside0.mk (below_step (by repeat (first | (with_reducible first | exact HB.out | apply below_alloc | apply pw_below_drewN | apply below_drew1) | exact HB.out)) hb); clear HO_0; clear HO_9; clear HO_11; clear HO160; clear HO164; clear HB; have HO_0 := n0_; have HO_9 := n1_; have HO_11 := n2_; have HO160 := n3_; have HO164 := n4_; have HB := n5_; clear n0_ n1_ n2_ n3_ n4_ n5_; (try clear hb); (try clear hb2); (try clear hk); (try clear hi)))
                  go_ret
                  exact ⟨by first | rfl | (simp [errW_none, errW_some] <;> rfl) | (simp [*, errW_none, errW_some] <;> rfl), by repeat (first | (with_reducible first | exact HB.out | apply below_alloc | apply pw_below_drewN | apply below_drew1) | exact HB.out)⟩
                · rw [if_neg c26] at H
                  have c26b0 : (t168 == t169) = false := beq_eq_false_iff_ne.mpr c26
                  have c26b1 : (t168 != t169) = true := bne_iff_ne.mpr c26
                  exact absurd ((Option.some.inj H).trans hrt_.out) (by decide)
              · rw [if_neg c23] at H
                have c23b0 : (t158 == t162) = false := beq_eq_false_iff_ne.mpr c23
                have c23b1 : (t158 != t162) = true := bne_iff_ne.mpr c23
                exact absurd ((Option.some.inj H).trans hrt_.out) (by decide)
            · replace c22 := Bool.eq_false_iff.mpr c22
              subst c22
              have H1 : (some false) = some r := by rw [if_neg (show ¬ (false = true) by decide)] at H; exact H
              clear H
              have H := H1
              clear H1
              exact absurd ((Option.some.inj H).trans hrt_.out) (by decide)
          · rw [if_neg c20] at H
            have c20b0 : (t150 == t154) = false := beq_eq_false_iff_ne.mpr c20
            have c20b1 : (t150 != t154) = true := bne_iff_ne.mpr c20
            exact absurd ((Option.some.inj H).trans hrt_.out) (by decide)
        · rw [if_neg c19] at H
          have c19b0 : ((strOfNums t149).toList == (strOfNums t153).toList) = false := beq_eq_false_iff_ne.mpr c19
          have c19b1 : ((strOfNums t149).toList != (strOfNums t153).toList) = true := bne_iff_ne.mpr c19
          exact absurd ((Option.some.inj H).trans hrt_.out) (by decide)
      · rw [if_neg c18] at H
        have c18b0 : (t165 == t166) = false := beq_eq_false_iff_ne.mpr c18
        have c18b1 : (t165 != t166) = true := bne_iff_ne.mpr c18
        exact absurd ((Option.some.inj H).trans hrt_.out) (by decide)

/-- THE ONE PURE STATEMENT of columbariumlaw3_BitsTells: yours. -/
def columbariumlaw3_BitsTells.Pure : Prop := ∀ (l0 : List Int) (a1 : Int) (l2 : List Int) (a3 : Int), l0.length ≤ maxLen → l0.length * 8 ≤ 140737488351232 → (∀ x ∈ l0, (Lit.int .u64 x).wf = true) → (Lit.int .i64 a1).wf = true → l2.length ≤ maxLen → l2.length * 1 ≤ 140737488351232 → (∀ x ∈ l2, (Lit.int .u8 x).wf = true) → (Lit.int .i64 a3).wf = true → ∃ k, columbariumlaw3_BitsTells.f k l0 a1 l2 a3 = some true
theorem columbariumlaw3_BitsTells.walk (P : columbariumlaw3_BitsTells.Pure) (a0 : Option Addr) (len0 cap0 : Nat) (z0 : List Int) (a1 : Int) (a2 : Option Addr) (len2 cap2 : Nat) (z2 : List Int) (a3 : Int) (w : World) (w0 : (a0 = none ∧ len0 = 0 ∧ cap0 = 0 ∧ z0 = []) ∨ ∃ x, a0 = some x ∧ len0 ≤ cap0 ∧ cap0 ≤ maxLen ∧ z0.length = cap0 ∧ (∀ i, i < z0.length → w.cell? (x.add i) = some (.int .u64 (z0.getD i 0))) ∧ ∀ n ∈ z0, (Lit.int .u64 n).wf = true) (y0 : len0 * 8 ≤ 140737488351232) (w1 : (Lit.int .i64 a1).wf = true) (w2 : (a2 = none ∧ len2 = 0 ∧ cap2 = 0 ∧ z2 = []) ∨ ∃ x, a2 = some x ∧ len2 ≤ cap2 ∧ cap2 ≤ maxLen ∧ z2.length = cap2 ∧ (∀ i, i < z2.length → w.cell? (x.add i) = some (.int .u8 (z2.getD i 0))) ∧ ∀ n ∈ z2, (Lit.int .u8 n).wf = true) (y2 : len2 * 1 ≤ 140737488351232) (w3 : (Lit.int .i64 a3).wf = true) :
    Calls Try.prog 6 #[.slice a0 len0 cap0, .int .i64 a1, .slice a2 len2 cap2, .int .i64 a3] w fun e w' => e = .returned (.bool true) ∧ Below w.heap.size w w' := by
  obtain ⟨l0, rfl, hr0, hm0, hw0, hc0⟩ := ReadsInt.ofRowC w0
  obtain ⟨l2, rfl, hr2, hm2, hw2, hc2⟩ := ReadsInt.ofRowC w2
  obtain ⟨k, h⟩ := P l0 a1 l2 a3 hm0 y0 hw0 w1 hm2 y2 hw2 w3
  refine (columbariumlaw3_BitsTells.calls k _ _ l0 a1 _ _ l2 a3 true w (Kd.C_of_reads (d := (0 : Int)) (h1 := fun _ => rfl) hr0) hc0 (Kd.C_of_reads (d := (0 : Int)) (h1 := fun _ => rfl) hr2) hc2 ⟨rfl⟩ h).mono ?_
  rintro e w' ⟨rfl, hd⟩
  exact ⟨rfl, hd⟩

end Go.Proofs.Ytlalckngngppfaa.QBitsTells
