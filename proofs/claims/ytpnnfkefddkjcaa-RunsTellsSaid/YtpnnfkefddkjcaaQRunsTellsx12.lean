-- Written by a program of this session (wip/myprint.py): the machine's side of a law
import Derived.Test.YtpnnfkefddkjcaaQRunsTellsx0
import Derived.Test.YtpnnfkefddkjcaaQRunsTellsx3
import Derived.Test.YtpnnfkefddkjcaaQRunsTellsx5
import Derived.Test.YtpnnfkefddkjcaaQRunsTellsx8
import Derived.Test.YtpnnfkefddkjcaaQRunsTellsx11
namespace Go.Proofs.Ytpnnfkefddkjcaa.QRunsTells
open Go.RowKit Go.Proofs.YtpnnfkefddkjcaaW.PrintWords Go.Proofs.YtpnnfkefddkjcaaW.PrintLast Go.Proofs.YtpnnfkefddkjcaaW.PrintMore
attribute [local go_sem] max2_int min2_int max_two min_two max_three min_three max_four min_four   -- for this text's walks alone
set_option linter.unusedVariables false
set_option linter.unusedSimpArgs false

/-! ### columbariumlaw5_RunsTells: function 5 -/
def columbariumlaw5_RunsTells.f (k : Nat) (l0 : List Int) (l1 : List Int) (a2 : Int) (a3 : Int) (a4 : Int) : Option (Bool) := if (l0.length : Int) > 60 then (if 60 ≤ (l0.length : Int) then (if a3 > 3000 then ((runs_Encode.f k (l0.take 60) a4).bind fun bt264 => ((columbariumref5_Encode.f k (l0.take 60) a4).bind fun bt268 => ((runs_Decode.f k l1 a2 1048577 a4).bind fun bt272 => ((columbariumref5_Decode.f k l1 a2 1048577 a4).bind fun bt277 => (if (strOfNums bt264.1).toList = (strOfNums bt268.1).toList then (if bt264.2 = bt268.2 then ((columbariumbook_Same_uint64.f k bt272.1 bt277.1).bind fun t282 => (if t282 = true then (if bt272.2.1 = bt277.2.1 then (if bt272.2.2 = bt277.2.2 then ((columbariumlaw5_known.f k).bind fun t283 => (some t283)) else (some false)) else (some false)) else (some false))) else (some false)) else (some false)))))) else ((runs_Encode.f k (l0.take 60) a4).bind fun bt284 => ((columbariumref5_Encode.f k (l0.take 60) a4).bind fun bt288 => ((runs_Decode.f k l1 a2 a3 a4).bind fun bt292 => ((columbariumref5_Decode.f k l1 a2 a3 a4).bind fun bt297 => (if (strOfNums bt284.1).toList = (strOfNums bt288.1).toList then (if bt284.2 = bt288.2 then ((columbariumbook_Same_uint64.f k bt292.1 bt297.1).bind fun t302 => (if t302 = true then (if bt292.2.1 = bt297.2.1 then (if bt292.2.2 = bt297.2.2 then ((columbariumlaw5_known.f k).bind fun t303 => (some t303)) else (some false)) else (some false)) else (some false))) else (some false)) else (some false))))))) else (none)) else (if a3 > 3000 then ((runs_Encode.f k l0 a4).bind fun bt304 => ((columbariumref5_Encode.f k l0 a4).bind fun bt308 => ((runs_Decode.f k l1 a2 1048577 a4).bind fun bt312 => ((columbariumref5_Decode.f k l1 a2 1048577 a4).bind fun bt317 => (if (strOfNums bt304.1).toList = (strOfNums bt308.1).toList then (if bt304.2 = bt308.2 then ((columbariumbook_Same_uint64.f k bt312.1 bt317.1).bind fun t322 => (if t322 = true then (if bt312.2.1 = bt317.2.1 then (if bt312.2.2 = bt317.2.2 then ((columbariumlaw5_known.f k).bind fun t323 => (some t323)) else (some false)) else (some false)) else (some false))) else (some false)) else (some false)))))) else ((runs_Encode.f k l0 a4).bind fun bt324 => ((columbariumref5_Encode.f k l0 a4).bind fun bt328 => ((runs_Decode.f k l1 a2 a3 a4).bind fun bt332 => ((columbariumref5_Decode.f k l1 a2 a3 a4).bind fun bt337 => (if (strOfNums bt324.1).toList = (strOfNums bt328.1).toList then (if bt324.2 = bt328.2 then ((columbariumbook_Same_uint64.f k bt332.1 bt337.1).bind fun t342 => (if t342 = true then (if bt332.2.1 = bt337.2.1 then (if bt332.2.2 = bt337.2.2 then ((columbariumlaw5_known.f k).bind fun t343 => (some t343)) else (some false)) else (some false)) else (some false))) else (some false)) else (some false)))))))
theorem columbariumlaw5_RunsTells.mono : ∀ a0 a1 a2 a3 a4 k, LeO (columbariumlaw5_RunsTells.f k a0 a1 a2 a3 a4) (columbariumlaw5_RunsTells.f (k + 1) a0 a1 a2 a3 a4) := by
  intro a0 a1 a2 a3 a4 k
  unfold columbariumlaw5_RunsTells.f
  repeat' first
      | (with_reducible exact columbariumbook_Same_uint64.mono _ _ _)
      | (with_reducible exact columbariumlaw5_known.mono _)
      | (with_reducible exact columbariumref5_Decode.mono _ _ _ _ _)
      | (with_reducible exact columbariumref5_Encode.mono _ _ _)
      | (with_reducible exact runs_Decode.mono _ _ _ _ _)
      | (with_reducible exact runs_Encode.mono _ _ _)
      | (with_reducible exact LeO.refl _)
      | (with_reducible exact LeO.none _)
      | (with_reducible refine LeO.ite ?_ ?_)
      | (with_reducible refine LeO.bind ?_ (fun _ => ?_))
      | exact columbariumbook_Same_uint64.mono _ _ _
      | exact columbariumlaw5_known.mono _
      | exact columbariumref5_Decode.mono _ _ _ _ _
      | exact columbariumref5_Encode.mono _ _ _
      | exact runs_Decode.mono _ _ _ _ _
      | exact runs_Encode.mono _ _ _
      | exact LeO.none _
      | refine LeO.ite ?_ ?_
      | refine LeO.bind ?_ (fun _ => ?_)
set_option maxHeartbeats 8000000 in
set_option maxRecDepth 100000 in
theorem columbariumlaw5_RunsTells.calls (k : Nat) (A0 : Option Addr) (c0 : Nat) (l0 : List Int) (A1 : Option Addr) (c1 : Nat) (l1 : List Int) (a2 : Int) (a3 : Int) (a4 : Int) (r : Bool) (w : World) (hr0 : Kd.C (Kd.int .u64) w A0 l0.length l0) (hc0 : l0.length ≤ c0) (hr1 : Kd.C (Kd.int .u8) w A1 l1.length l1) (hc1 : l1.length ≤ c1) (hrt_ : Aside0 (r = true)) (h : columbariumlaw5_RunsTells.f k l0 l1 a2 a3 a4 = some r) :
    Calls Try.prog 5 #[.slice A0 l0.length c0, .slice A1 l1.length c1, .int .i64 a2, .int .i64 a3, .int .i64 a4] w fun e w' => e = .returned (.bool r) ∧ Below w.heap.size w w' := by
  have HR0 := Aside0.mk hr0
  have HC0 := Aside0.mk hc0
  clear hr0 hc0
  have HR1 := Aside0.mk hr1
  have HC1 := Aside0.mk hc1
  clear hr1 hc1
  have HB := Aside0.mk (Below.refl w.heap.size w)
  have H : (if (l0.length : Int) > 60 then (if 60 ≤ (l0.length : Int) then (if a3 > 3000 then ((runs_Encode.f k (l0.take 60) a4).bind fun bt264 => ((columbariumref5_Encode.f k (l0.take 60) a4).bind fun bt268 => ((runs_Decode.f k l1 a2 1048577 a4).bind fun bt272 => ((columbariumref5_Decode.f k l1 a2 1048577 a4).bind fun bt277 => (if (strOfNums bt264.1).toList = (strOfNums bt268.1).toList then (if bt264.2 = bt268.2 then ((columbariumbook_Same_uint64.f k bt272.1 bt277.1).bind fun t282 => (if t282 = true then (if bt272.2.1 = bt277.2.1 then (if bt272.2.2 = bt277.2.2 then ((columbariumlaw5_known.f k).bind fun t283 => (some t283)) else (some false)) else (some false)) else (some false))) else (some false)) else (some false)))))) else ((runs_Encode.f k (l0.take 60) a4).bind fun bt284 => ((columbariumref5_Encode.f k (l0.take 60) a4).bind fun bt288 => ((runs_Decode.f k l1 a2 a3 a4).bind fun bt292 => ((columbariumref5_Decode.f k l1 a2 a3 a4).bind fun bt297 => (if (strOfNums bt284.1).toList = (strOfNums bt288.1).toList then (if bt284.2 = bt288.2 then ((columbariumbook_Same_uint64.f k bt292.1 bt297.1).bind fun t302 => (if t302 = true then (if bt292.2.1 = bt297.2.1 then (if bt292.2.2 = bt297.2.2 then ((columbariumlaw5_known.f k).bind fun t303 => (some t303)) else (some false)) else (some false)) else (some false))) else (some false)) else (some false))))))) else (none)) else (if a3 > 3000 then ((runs_Encode.f k l0 a4).bind fun bt304 => ((columbariumref5_Encode.f k l0 a4).bind fun bt308 => ((runs_Decode.f k l1 a2 1048577 a4).bind fun bt312 => ((columbariumref5_Decode.f k l1 a2 1048577 a4).bind fun bt317 => (if (strOfNums bt304.1).toList = (strOfNums bt308.1).toList then (if bt304.2 = bt308.2 then ((columbariumbook_Same_uint64.f k bt312.1 bt317.1).bind fun t322 => (if t322 = true then (if bt312.2.1 = bt317.2.1 then (if bt312.2.2 = bt317.2.2 then ((columbariumlaw5_known.f k).bind fun t323 => (some t323)) else (some false)) else (some false)) else (some false))) else (some false)) else (some false)))))) else ((runs_Encode.f k l0 a4).bind fun bt324 => ((columbariumref5_Encode.f k l0 a4).bind fun bt328 => ((runs_Decode.f k l1 a2 a3 a4).bind fun bt332 => ((columbariumref5_Decode.f k l1 a2 a3 a4).bind fun bt337 => (if (strOfNums bt324.1).toList = (strOfNums bt328.1).toList then (if bt324.2 = bt328.2 then ((columbariumbook_Same_uint64.f k bt332.1 bt337.1).bind fun t342 => (if t342 = true then (if bt332.2.1 = bt337.2.1 then (if bt332.2.2 = bt337.2.2 then ((columbariumlaw5_known.f k).bind fun t343 => (some t343)) else (some false)) else (some false)) else (some false))) else (some false)) else (some false)))))))) = some r := h
  clear h
  by_cases c6 : (l0.length : Int) > 60
  · rw [if_pos c6] at H
    have c6b0 : decide (60 < (l0.length : Int)) = true := decide_eq_true c6
    have c6b1 : decide (60 < l0.length) = true := decide_eq_true (by omega)
    clear c6
    by_cases c7 : 60 ≤ (l0.length : Int)
    · rw [if_pos c7] at H
      have c7b0 := eq_true c7
      have c7b1 : decide (60 ≤ (l0.length : Int)) = true := decide_eq_true c7
      clear c7
      by_cases c8 : a3 > 3000
      · rw [if_pos c8] at H
        have c8b0 : decide (3000 < a3) = true := decide_eq_true c8
        clear c8
        replace H := Option.bind_eq_some_iff.mp H
        obtain ⟨⟨t264, t265⟩, A90, H⟩ := H
        replace H : ((columbariumref5_Encode.f k (l0.take 60) a4).bind fun bt268 => ((runs_Decode.f k l1 a2 1048577 a4).bind fun bt272 => ((columbariumref5_Decode.f k l1 a2 1048577 a4).bind fun bt277 => (if (strOfNums t264).toList = (strOfNums bt268.1).toList then (if t265 = bt268.2 then ((columbariumbook_Same_uint64.f k bt272.1 bt277.1).bind fun t282 => (if t282 = true then (if bt272.2.1 = bt277.2.1 then (if bt272.2.2 = bt277.2.2 then ((columbariumlaw5_known.f k).bind fun t283 => (some t283)) else (some false)) else (some false)) else (some false))) else (some false)) else (some false))))) = some r := H
        have A9 := Aside0.mk A90
        clear A90
        replace H := Option.bind_eq_some_iff.mp H
        obtain ⟨⟨t268, t269⟩, A100, H⟩ := H
        replace H : ((runs_Decode.f k l1 a2 1048577 a4).bind fun bt272 => ((columbariumref5_Decode.f k l1 a2 1048577 a4).bind fun bt277 => (if (strOfNums t264).toList = (strOfNums t268).toList then (if t265 = t269 then ((columbariumbook_Same_uint64.f k bt272.1 bt277.1).bind fun t282 => (if t282 = true then (if bt272.2.1 = bt277.2.1 then (if bt272.2.2 = bt277.2.2 then ((columbariumlaw5_known.f k).bind fun t283 => (some t283)) else (some false)) else (some false)) else (some false))) else (some false)) else (some false)))) = some r := H
        have A10 := Aside0.mk A100
        clear A100
        replace H := Option.bind_eq_some_iff.mp H
        obtain ⟨⟨t272, t275, t276⟩, A110, H⟩ := H
        replace H : ((columbariumref5_Decode.f k l1 a2 1048577 a4).bind fun bt277 => (if (strOfNums t264).toList = (strOfNums t268).toList then (if t265 = t269 then ((columbariumbook_Same_uint64.f k t272 bt277.1).bind fun t282 => (if t282 = true then (if t275 = bt277.2.1 then (if t276 = bt277.2.2 then ((columbariumlaw5_known.f k).bind fun t283 => (some t283)) else (some false)) else (some false)) else (some false))) else (some false)) else (some false))) = some r := H
        have A11 := Aside0.mk A110
        clear A110
        replace H := Option.bind_eq_some_iff.mp H
        obtain ⟨⟨t277, t278, t279⟩, A120, H⟩ := H
        replace H : (if (strOfNums t264).toList = (strOfNums t268).toList then (if t265 = t269 then ((columbariumbook_Same_uint64.f k t272 t277).bind fun t282 => (if t282 = true then (if t275 = t278 then (if t276 = t279 then ((columbariumlaw5_known.f k).bind fun t283 => (some t283)) else (some false)) else (some false)) else (some false))) else (some false)) else (some false)) = some r := H
        have A12 := Aside0.mk A120
        clear A120
        by_cases c13 : (strOfNums t264).toList = (strOfNums t268).toList
        · rw [if_pos c13] at H
          have c13b0 : ((strOfNums t264).toList == (strOfNums t268).toList) = true := beq_iff_eq.mpr c13
          have c13b1 : ((strOfNums t264).toList != (strOfNums t268).toList) = false := bne_eq_false_iff_eq.mpr c13
          clear c13
          by_cases c14 : t265 = t269
          · rw [if_pos c14] at H
            have c14b0 : (t265 == t269) = true := beq_iff_eq.mpr c14
            have c14b1 : (t265 != t269) = false := bne_eq_false_iff_eq.mpr c14
            clear c14
            replace H := Option.bind_eq_some_iff.mp H
            obtain ⟨t282, A150, H⟩ := H
            replace H : (if t282 = true then (if t275 = t278 then (if t276 = t279 then ((columbariumlaw5_known.f k).bind fun t283 => (some t283)) else (some false)) else (some false)) else (some false)) = some r := H
            have A15 := Aside0.mk A150
            clear A150
            by_cases c16 : t282 = true
            · subst c16
              have H1 : (if t275 = t278 then (if t276 = t279 then ((columbariumlaw5_known.f k).bind fun t283 => (some t283)) else (some false)) else (some false)) = some r := by rw [if_pos rfl] at H; exact H
              clear H
              have H := H1
              clear H1
              by_cases c17 : t275 = t278
              · rw [if_pos c17] at H
                have c17b0 : (t275 == t278) = true := beq_iff_eq.mpr c17
                have c17b1 : (t275 != t278) = false := bne_eq_false_iff_eq.mpr c17
                clear c17
                by_cases c18 : t276 = t279
                · rw [if_pos c18] at H
                  have c18b0 : (t276 == t279) = true := beq_iff_eq.mpr c18
                  have c18b1 : (t276 != t279) = false := bne_eq_false_iff_eq.mpr c18
                  clear c18
                  replace H := Option.bind_eq_some_iff.mp H
                  obtain ⟨t283, A190, H⟩ := H
                  replace H : (some t283) = some r := H
                  have A19 := Aside0.mk A190
                  clear A190
                  obtain rfl := Option.some.inj H
                  obtain ⟨i020, hi020, _, hsz20, _⟩ := info_parts info27
                  obtain ⟨hcut20, hA20, hC20⟩ := print_take_of (P := Try.prog) (Value.int .u64) 0 23 27 .i64 Try.underlying23 hi020 hsz20 A0 c0 l0 60 (by omega) (of_decide_eq_true (by first | (with_reducible assumption) | assumption)) HC0.out
                  have HR263 := Aside0.mk (Kd.C_of_reads (h1 := fun _ => rfl) (hA20 _ (Kd.reads_of_C HR0.out)))
                  have HC263 := Aside0.mk hC20
                  clear hA20 hC20 hi020 hsz20
                  go_enter Try.func5, Try.ntmps5
                  go_wp2_with (first | ((with_reducible refine gate_callee (f := 12) rfl ?_); refine goesL_ (some 31) rfl rfl Try.func12 (by kernel_rfl) rfl #[.slice A0 (l0.take 60).length c0, .int .i64 a4] rfl (by (try simp only [List.map_toArray, List.map_cons, List.map_nil]); first | done | (rw [show (l0.take 60).length = 60 from (by rw [List.length_take]; have h_ : (60 : Int) ≤ (l0.length : Int) := of_decide_eq_true (by first | (with_reducible assumption) | assumption); omega)] <;> rfl) | rfl | (simp only [List.length_drop, List.length_take]; rfl)) ?_; (with_reducible refine (runs_Encode.calls k _ _ (l0.take 60) a4 t264 t265 _ ?side1 ?side2 A9.out).mono ?_); (case side1 => repeat (first | exact HR263.out | (with_reducible refine Kd.C_alloc ?_ _) | (with_reducible refine Kd.C_drewN ?_ _) | (with_reducible refine Kd.C_drew ?_))); (case side2 => exact HC263.out); rintro e w21 ⟨v266, rfl, ho0, hb⟩; refine ⟨_, rfl, ?_⟩; have n0_ := Aside0.mk (Kd.R_lower ho0 (below_size (by repeat (first | (with_reducible first | exact HB.out | apply below_alloc | apply pw_below_drewN | apply below_drew1) | exact HB.out)))); have n1_ := Aside0.mk (below_step (by repeat (first | (with_reducible first | exact HB.out | apply below_alloc | apply pw_below_drewN | apply below_drew1) | exact HB.out)) hb); clear HB; have HO267 := n0_; have HB := n1_; clear n0_ n1_; (try clear hb); (try clear hb2); (try clear hk); (try clear hi); (try clear ho0)) | ((with_reducible refine gate_callee (f := 13) rfl ?_); refine goesL_ (some 37) rfl rfl Try.func13 (by kernel_rfl) rfl #[.slice A0 (l0.take 60).length c0, .int .i64 a4] rfl (by (try simp only [List.map_toArray, List.map_cons, List.map_nil]); first | done | (rw [show (l0.take 60).length = 60 from (by rw [List.length_take]; have h_ : (60 : Int) ≤ (l0.length : Int) := of_decide_eq_true (by first | (with_reducible assumption) | assumption); omega)] <;> rfl) | rfl | (simp only [List.length_drop, List.length_take]; rfl)) ?_; (with_reducible refine (columbariumref5_Encode.calls k _ _ (l0.take 60) a4 t268 t269 _ ?side1 ?side2 A10.out).mono ?_); (case side1 => repeat (first | exact (Kd.C_below HR263.out HB.out) | (with_reducible refine Kd.C_alloc ?_ _) | (with_reducible refine Kd.C_drewN ?_ _) | (with_reducible refine Kd.C_drew ?_))); (case side2 => exact HC263.out); rintro e w22 ⟨v270, rfl, ho0, hb⟩; refine ⟨_, rfl, ?_⟩; have n0_ := Aside0.mk (Kd.R_elder' (by (with_reducible repeat (first | apply Kd.R_alloc | apply Kd.R_drewN | apply Kd.R_drew)); exact HO267.out) (Kd.R_base ho0) hb); have n1_ := Aside0.mk (Kd.R_lower (Kd.R_new' ho0 (Kd.R_lt (by (with_reducible repeat (first | apply Kd.R_alloc | apply Kd.R_drewN | apply Kd.R_drew)); exact HO267.out))) (below_size (by repeat (first | (with_reducible first | exact HB.out | apply below_alloc | apply pw_below_drewN | apply below_drew1) | exact HB.out)))); have n2_ := Aside0.mk (below_step (by repeat (first | (with_reducible first | exact HB.out | apply below_alloc | apply pw_below_drewN | apply below_drew1) | exact HB.out)) hb); clear HO267; clear HB; have HO267 := n0_; have HO271 := n1_; have HB := n2_; clear n0_ n1_ n2_; (try clear hb); (try clear hb2); (try clear hk); (try clear hi); (try clear ho0)) | ((with_reducible refine gate_callee (f := 14) rfl ?_); refine goesL_ (some 45) rfl rfl Try.func14 (by kernel_rfl) rfl #[.slice A1 l1.length c1, .int .i64 a2, .int .i64 1048577, .int .i64 a4] rfl (by (try simp only [List.map_toArray, List.map_cons, List.map_nil]); first | done | rfl | (simp only [List.length_drop, List.length_take]; rfl)) ?_; (with_reducible refine (runs_Decode.calls k _ _ l1 a2 1048577 a4 t272 t275 t276 _ ?side1 ?side2 A11.out).mono ?_); (case side1 => repeat (first | exact (Kd.C_below HR1.out HB.out) | (with_reducible refine Kd.C_alloc ?_ _) | (with_reducible refine Kd.C_drewN ?_ _) | (with_reducible refine Kd.C_drew ?_))); (case side2 => exact HC1.out); rintro e w23 ⟨v273, rfl, ho0, hb⟩; refine ⟨_, rfl, ?_⟩; have n0_ := Aside0.mk (Kd.R_below (by (with_reducible repeat (first | apply Kd.R_alloc | apply Kd.R_drewN | apply Kd.R_drew)); exact HO267.out) hb); have n1_ := Aside0.mk (Kd.R_below (by (with_reducible repeat (first | apply Kd.R_alloc | apply Kd.R_drewN | apply Kd.R_drew)); exact HO271.out) hb); have n2_ := Aside0.mk (Kd.V_lower (Kd.V_mono (ok' := fun k_ => some k_ ≠ (v266 : Value).ownBlock ∧ some k_ ≠ (v270 : Value).ownBlock) ho0 (fun k_ hk_ => ⟨(Kd.fresh' (Kd.R_lt (by (with_reducible repeat (first | apply Kd.R_alloc | apply Kd.R_drewN | apply Kd.R_drew)); exact HO267.out)) k_ hk_), (Kd.fresh' (Kd.R_lt (by (with_reducible repeat (first | apply Kd.R_alloc | apply Kd.R_drewN | apply Kd.R_drew)); exact HO271.out)) k_ hk_)⟩)) (below_size (by repeat (first | (with_reducible first | exact HB.out | apply below_alloc | apply pw_below_drewN | apply below_drew1) | exact HB.out)))); have n3_ := Aside0.mk (below_step (by repeat (first | (with_reducible first | exact HB.out | apply below_alloc | apply pw_below_drewN | apply below_drew1) | exact HB.out)) hb); clear HO267; clear HO271; clear HB; have HO267 := n0_; have HO271 := n1_; have HO274 := n2_; have HB := n3_; clear n0_ n1_ n2_ n3_; (try clear hb); (try clear hb2); (try clear hk); (try clear hi); (try clear ho0)) | ((with_reducible refine gate_callee (f := 15) rfl ?_); refine goesL_ (some 54) rfl rfl Try.func15 (by kernel_rfl) rfl #[.slice A1 l1.length c1, .int .i64 a2, .int .i64 1048577, .int .i64 a4] rfl (by (try simp only [List.map_toArray, List.map_cons, List.map_nil]); first | done | rfl | (simp only [List.length_drop, List.length_take]; rfl)) ?_; (with_reducible refine (columbariumref5_Decode.calls k _ _ l1 a2 1048577 a4 t277 t278 t279 _ ?side1 ?side2 A12.out).mono ?_); (case side1 => repeat (first | exact (Kd.C_below HR1.out HB.out) | (with_reducible refine Kd.C_alloc ?_ _) | (with_reducible refine Kd.C_drewN ?_ _) | (with_reducible refine Kd.C_drew ?_))); (case side2 => exact HC1.out); rintro e w24 ⟨v280, rfl, ho0, hb⟩; refine ⟨_, rfl, ?_⟩; have n0_ := Aside0.mk (Kd.R_below (by (with_reducible repeat (first | apply Kd.R_alloc | apply Kd.R_drewN | apply Kd.R_drew)); exact HO267.out) hb); have n1_ := Aside0.mk (Kd.R_below (by (with_reducible repeat (first | apply Kd.R_alloc | apply Kd.R_drewN | apply Kd.R_drew)); exact HO271.out) hb); have n2_ := Aside0.mk (Kd.V_elder' (by (with_reducible repeat (first | apply Kd.V_alloc | apply Kd.V_drewN | apply Kd.V_drew)); exact HO274.out) (Kd.R_base ho0) hb); have n3_ := Aside0.mk (Kd.R_lower ho0 (below_size (by repeat (first | (with_reducible first | exact HB.out | apply below_alloc | apply pw_below_drewN | apply below_drew1) | exact HB.out)))); have n4_ := Aside0.mk (below_step (by repeat (first | (with_reducible first | exact HB.out | apply below_alloc | apply pw_below_drewN | apply below_drew1) | exact HB.out)) hb); clear HO267; clear HO271; clear HO274; clear HB; have HO267 := n0_; have HO271 := n1_; have HO274 := n2_; have HO281 := n3_; have HB := n4_; clear n0_ n1_ n2_ n3_ n4_; (try clear hb); (try clear hb2); (try clear hk); (try clear hi); (try clear ho0); have hcv25 := own_string (P := Try.prog) Try.underlying29 Try.underlying5 Try.underlying9 (Kd.own_of_R HO267.out); have hcv26 := own_string (P := Try.prog) Try.underlying29 Try.underlying5 Try.underlying9 (Kd.own_of_R HO271.out); obtain ⟨Ao27, co27, eo27⟩ := Kd.V_slice HO274.out; subst eo27; obtain ⟨Ao28, co28, eo28⟩ := Kd.R_slice HO281.out; subst eo28) | (go_at_call 16; (with_reducible refine (columbariumbook_Same_uint64.calls k _ _ t272 _ _ t277 true _ ?side1 ?side2 ?side3 ?side4 A15.out).mono ?_); (case side1 => repeat (first | exact (Kd.V_reads' HO274.out).2.2 | (with_reducible refine Kd.C_alloc ?_ _) | (with_reducible refine Kd.C_drewN ?_ _) | (with_reducible refine Kd.C_drew ?_))); (case side2 => exact (Kd.V_reads' HO274.out).2.1); (case side3 => repeat (first | exact (Kd.R_reads' HO281.out).2.2 | (with_reducible refine Kd.C_alloc ?_ _) | (with_reducible refine Kd.C_drewN ?_ _) | (with_reducible refine Kd.C_drew ?_))); (case side4 => exact (Kd.R_reads' HO281.out).2.1); rintro e w' ⟨rfl, ⟨nd, rfl⟩⟩) | (go_at_call 11; (with_reducible refine (columbariumlaw5_known.calls k  t283 _ A19.out).mono ?_); rintro e w29 ⟨rfl, hb⟩; have n0_ := Aside0.mk (Kd.R_below (by (with_reducible repeat (first | apply Kd.R_alloc | apply Kd.R_drewN | apply Kd.R_drew)); exact HO267.out) hb); have n1_ := Aside0.mk (Kd.R_below (by (with_reducible repeat (first | apply Kd.R_alloc | apply Kd.R_drewN | apply Kd.R_drew)); exact HO271.out) hb); have n2_ := Aside0.mk (Kd.V_below (by (with_reducible repeat (first | apply Kd.V_alloc | apply Kd.V_drewN | apply Kd.V_drew)); exact HO274.out) hb); have n3_ := Aside0.mk (Kd.R_below (by (with_reducible repeat (first | apply Kd.R_alloc | apply Kd.R_drewN | apply Kd.R_drew)); exact HO281.out) hb); have n4_ := Aside0.mk (below_step (by repeat (first | (with_reducible first | exact HB.out | apply below_alloc | apply pw_below_drewN | apply below_drew1) | exact HB.out)) hb); clear HO267; clear HO271; clear HO274; clear HO281; clear HB; have HO267 := n0_; have HO271 := n1_; have HO274 := n2_; have HO281 := n3_; have HB := n4_; clear n0_ n1_ n2_ n3_ n4_; (try clear hb); (try clear hb2); (try clear hk); (try clear hi)))
                  go_ret
                  exact ⟨by first | rfl | (simp [errW_none, errW_some] <;> rfl) | (simp [*, errW_none, errW_some] <;> rfl), by repeat (first | (with_reducible first | exact HB.out | apply below_alloc | apply pw_below_drewN | apply below_drew1) | exact HB.out)⟩
                · rw [if_neg c18] at H
                  have c18b0 : (t276 == t279) = false := beq_eq_false_iff_ne.mpr c18
                  have c18b1 : (t276 != t279) = true := bne_iff_ne.mpr c18
                  exact absurd ((Option.some.inj H).trans hrt_.out) (by decide)
              · rw [if_neg c17] at H
                have c17b0 : (t275 == t278) = false := beq_eq_false_iff_ne.mpr c17
                have c17b1 : (t275 != t278) = true := bne_iff_ne.mpr c17
                exact absurd ((Option.some.inj H).trans hrt_.out) (by decide)
            · replace c16 := Bool.eq_false_iff.mpr c16
              subst c16
              have H1 : (some false) = some r := by rw [if_neg (show ¬ (false = true) by decide)] at H; exact H
              clear H
              have H := H1
              clear H1
              exact absurd ((Option.some.inj H).trans hrt_.out) (by decide)
          · rw [if_neg c14] at H
            have c14b0 : (t265 == t269) = false := beq_eq_false_iff_ne.mpr c14
            have c14b1 : (t265 != t269) = true := bne_iff_ne.mpr c14
            exact absurd ((Option.some.inj H).trans hrt_.out) (by decide)
        · rw [if_neg c13] at H
          have c13b0 : ((strOfNums t264).toList == (strOfNums t268).toList) = false := beq_eq_false_iff_ne.mpr c13
          have c13b1 : ((strOfNums t264).toList != (strOfNums t268).toList) = true := bne_iff_ne.mpr c13
          exact absurd ((Option.some.inj H).trans hrt_.out) (by decide)
      · rw [if_neg c8] at H
        have c8b0 : decide (3000 < a3) = false := decide_eq_false c8
        clear c8
        replace H := Option.bind_eq_some_iff.mp H
        obtain ⟨⟨t284, t285⟩, A300, H⟩ := H
        replace H : ((columbariumref5_Encode.f k (l0.take 60) a4).bind fun bt288 => ((runs_Decode.f k l1 a2 a3 a4).bind fun bt292 => ((columbariumref5_Decode.f k l1 a2 a3 a4).bind fun bt297 => (if (strOfNums t284).toList = (strOfNums bt288.1).toList then (if t285 = bt288.2 then ((columbariumbook_Same_uint64.f k bt292.1 bt297.1).bind fun t302 => (if t302 = true then (if bt292.2.1 = bt297.2.1 then (if bt292.2.2 = bt297.2.2 then ((columbariumlaw5_known.f k).bind fun t303 => (some t303)) else (some false)) else (some false)) else (some false))) else (some false)) else (some false))))) = some r := H
        have A30 := Aside0.mk A300
        clear A300
        replace H := Option.bind_eq_some_iff.mp H
        obtain ⟨⟨t288, t289⟩, A310, H⟩ := H
        replace H : ((runs_Decode.f k l1 a2 a3 a4).bind fun bt292 => ((columbariumref5_Decode.f k l1 a2 a3 a4).bind fun bt297 => (if (strOfNums t284).toList = (strOfNums t288).toList then (if t285 = t289 then ((columbariumbook_Same_uint64.f k bt292.1 bt297.1).bind fun t302 => (if t302 = true then (if bt292.2.1 = bt297.2.1 then (if bt292.2.2 = bt297.2.2 then ((columbariumlaw5_known.f k).bind fun t303 => (some t303)) else (some false)) else (some false)) else (some false))) else (some false)) else (some false)))) = some r := H
        have A31 := Aside0.mk A310
        clear A310
        replace H := Option.bind_eq_some_iff.mp H
        obtain ⟨⟨t292, t295, t296⟩, A320, H⟩ := H
        replace H : ((columbariumref5_Decode.f k l1 a2 a3 a4).bind fun bt297 => (if (strOfNums t284).toList = (strOfNums t288).toList then (if t285 = t289 then ((columbariumbook_Same_uint64.f k t292 bt297.1).bind fun t302 => (if t302 = true then (if t295 = bt297.2.1 then (if t296 = bt297.2.2 then ((columbariumlaw5_known.f k).bind fun t303 => (some t303)) else (some false)) else (some false)) else (some false))) else (some false)) else (some false))) = some r := H
        have A32 := Aside0.mk A320
        clear A320
        replace H := Option.bind_eq_some_iff.mp H
        obtain ⟨⟨t297, t298, t299⟩, A330, H⟩ := H
        replace H : (if (strOfNums t284).toList = (strOfNums t288).toList then (if t285 = t289 then ((columbariumbook_Same_uint64.f k t292 t297).bind fun t302 => (if t302 = true then (if t295 = t298 then (if t296 = t299 then ((columbariumlaw5_known.f k).bind fun t303 => (some t303)) else (some false)) else (some false)) else (some false))) else (some false)) else (some false)) = some r := H
        have A33 := Aside0.mk A330
        clear A330
        by_cases c34 : (strOfNums t284).toList = (strOfNums t288).toList
        · rw [if_pos c34] at H
          have c34b0 : ((strOfNums t284).toList == (strOfNums t288).toList) = true := beq_iff_eq.mpr c34
          have c34b1 : ((strOfNums t284).toList != (strOfNums t288).toList) = false := bne_eq_false_iff_eq.mpr c34
          clear c34
          by_cases c35 : t285 = t289
          · rw [if_pos c35] at H
            have c35b0 : (t285 == t289) = true := beq_iff_eq.mpr c35
            have c35b1 : (t285 != t289) = false := bne_eq_false_iff_eq.mpr c35
            clear c35
            replace H := Option.bind_eq_some_iff.mp H
            obtain ⟨t302, A360, H⟩ := H
            replace H : (if t302 = true then (if t295 = t298 then (if t296 = t299 then ((columbariumlaw5_known.f k).bind fun t303 => (some t303)) else (some false)) else (some false)) else (some false)) = some r := H
            have A36 := Aside0.mk A360
            clear A360
            by_cases c37 : t302 = true
            · subst c37
              have H1 : (if t295 = t298 then (if t296 = t299 then ((columbariumlaw5_known.f k).bind fun t303 => (some t303)) else (some false)) else (some false)) = some r := by rw [if_pos rfl] at H; exact H
              clear H
              have H := H1
              clear H1
              by_cases c38 : t295 = t298
              · rw [if_pos c38] at H
                have c38b0 : (t295 == t298) = true := beq_iff_eq.mpr c38
                have c38b1 : (t295 != t298) = false := bne_eq_false_iff_eq.mpr c38
                clear c38
                by_cases c39 : t296 = t299
                · rw [if_pos c39] at H
                  have c39b0 : (t296 == t299) = true := beq_iff_eq.mpr c39
                  have c39b1 : (t296 != t299) = false := bne_eq_false_iff_eq.mpr c39
                  clear c39
                  replace H := Option.bind_eq_some_iff.mp H
                  obtain ⟨t303, A400, H⟩ := H
                  replace H : (some t303) = some r := H
                  have A40 := Aside0.mk A400
                  clear A400
                  obtain rfl := Option.some.inj H
                  obtain ⟨i041, hi041, _, hsz41, _⟩ := info_parts info27
                  obtain ⟨hcut41, hA41, hC41⟩ := print_take_of (P := Try.prog) (Value.int .u64) 0 23 27 .i64 Try.underlying23 hi041 hsz41 A0 c0 l0 60 (by omega) (of_decide_eq_true (by first | (with_reducible assumption) | assumption)) HC0.out
                  have HR263 := Aside0.mk (Kd.C_of_reads (h1 := fun _ => rfl) (hA41 _ (Kd.reads_of_C HR0.out)))
                  have HC263 := Aside0.mk hC41
                  clear hA41 hC41 hi041 hsz41
                  go_enter Try.func5, Try.ntmps5
                  go_wp2_with (first | ((with_reducible refine gate_callee (f := 12) rfl ?_); refine goesL_ (some 31) rfl rfl Try.func12 (by kernel_rfl) rfl #[.slice A0 (l0.take 60).length c0, .int .i64 a4] rfl (by (try simp only [List.map_toArray, List.map_cons, List.map_nil]); first | done | (rw [show (l0.take 60).length = 60 from (by rw [List.length_take]; have h_ : (60 : Int) ≤ (l0.length : Int) := of_decide_eq_true (by first | (with_reducible assumption) | assumption); omega)] <;> rfl) | rfl | (simp only [List.length_drop, List.length_take]; rfl)) ?_; (with_reducible refine (runs_Encode.calls k _ _ (l0.take 60) a4 t284 t285 _ ?side1 ?side2 A30.out).mono ?_); (case side1 => repeat (first | exact HR263.out | (with_reducible refine Kd.C_alloc ?_ _) | (with_reducible refine Kd.C_drewN ?_ _) | (with_reducible refine Kd.C_drew ?_))); (case side2 => exact HC263.out); rintro e w42 ⟨v286, rfl, ho0, hb⟩; refine ⟨_, rfl, ?_⟩; have n0_ := Aside0.mk (Kd.R_lower ho0 (below_size (by repeat (first | (with_reducible first | exact HB.out | apply below_alloc | apply pw_below_drewN | apply below_drew1) | exact HB.out)))); have n1_ := Aside0.mk (below_step (by repeat (first | (with_reducible first | exact HB.out | apply below_alloc | apply pw_below_drewN | apply below_drew1) | exact HB.out)) hb); clear HB; have HO287 := n0_; have HB := n1_; clear n0_ n1_; (try clear hb); (try clear hb2); (try clear hk); (try clear hi); (try clear ho0)) | ((with_reducible refine gate_callee (f := 13) rfl ?_); refine goesL_ (some 37) rfl rfl Try.func13 (by kernel_rfl) rfl #[.slice A0 (l0.take 60).length c0, .int .i64 a4] rfl (by (try simp only [List.map_toArray, List.map_cons, List.map_nil]); first | done | (rw [show (l0.take 60).length = 60 from (by rw [List.length_take]; have h_ : (60 : Int) ≤ (l0.length : Int) := of_decide_eq_true (by first | (with_reducible assumption) | assumption); omega)] <;> rfl) | rfl | (simp only [List.length_drop, List.length_take]; rfl)) ?_; (with_reducible refine (columbariumref5_Encode.calls k _ _ (l0.take 60) a4 t288 t289 _ ?side1 ?side2 A31.out).mono ?_); (case side1 => repeat (first | exact (Kd.C_below HR263.out HB.out) | (with_reducible refine Kd.C_alloc ?_ _) | (with_reducible refine Kd.C_drewN ?_ _) | (with_reducible refine Kd.C_drew ?_))); (case side2 => exact HC263.out); rintro e w43 ⟨v290, rfl, ho0, hb⟩; refine ⟨_, rfl, ?_⟩; have n0_ := Aside0.mk (Kd.R_elder' (by (with_reducible repeat (first | apply Kd.R_alloc | apply Kd.R_drewN | apply Kd.R_drew)); exact HO287.out) (Kd.R_base ho0) hb); have n1_ := Aside0.mk (Kd.R_lower (Kd.R_new' ho0 (Kd.R_lt (by (with_reducible repeat (first | apply Kd.R_alloc | apply Kd.R_drewN | apply Kd.R_drew)); exact HO287.out))) (below_size (by repeat (first | (with_reducible first | exact HB.out | apply below_alloc | apply pw_below_drewN | apply below_drew1) | exact HB.out)))); have n2_ := Aside0.mk (below_step (by repeat (first | (with_reducible first | exact HB.out | apply below_alloc | apply pw_below_drewN | apply below_drew1) | exact HB.out)) hb); clear HO287; clear HB; have HO287 := n0_; have HO291 := n1_; have HB := n2_; clear n0_ n1_ n2_; (try clear hb); (try clear hb2); (try clear hk); (try clear hi); (try clear ho0)) | ((with_reducible refine gate_callee (f := 14) rfl ?_); refine goesL_ (some 45) rfl rfl Try.func14 (by kernel_rfl) rfl #[.slice A1 l1.length c1, .int .i64 a2, .int .i64 a3, .int .i64 a4] rfl (by (try simp only [List.map_toArray, List.map_cons, List.map_nil]); first | done | rfl | (simp only [List.length_drop, List.length_take]; rfl)) ?_; (with_reducible refine (runs_Decode.calls k _ _ l1 a2 a3 a4 t292 t295 t296 _ ?side1 ?side2 A32.out).mono ?_); (case side1 => repeat (first | exact (Kd.C_below HR1.out HB.out) | (with_reducible refine Kd.C_alloc ?_ _) | (with_reducible refine Kd.C_drewN ?_ _) | (with_reducible refine Kd.C_drew ?_))); (case side2 => exact HC1.out); rintro e w44 ⟨v293, rfl, ho0, hb⟩; refine ⟨_, rfl, ?_⟩; have n0_ := Aside0.mk (Kd.R_below (by (with_reducible repeat (first | apply Kd.R_alloc | apply Kd.R_drewN | apply Kd.R_drew)); exact HO287.out) hb); have n1_ := Aside0.mk (Kd.R_below (by (with_reducible repeat (first | apply Kd.R_alloc | apply Kd.R_drewN | apply Kd.R_drew)); exact HO291.out) hb); have n2_ := Aside0.mk (Kd.V_lower (Kd.V_mono (ok' := fun k_ => some k_ ≠ (v286 : Value).ownBlock ∧ some k_ ≠ (v290 : Value).ownBlock) ho0 (fun k_ hk_ => ⟨(Kd.fresh' (Kd.R_lt (by (with_reducible repeat (first | apply Kd.R_alloc | apply Kd.R_drewN | apply Kd.R_drew)); exact HO287.out)) k_ hk_), (Kd.fresh' (Kd.R_lt (by (with_reducible repeat (first | apply Kd.R_alloc | apply Kd.R_drewN | apply Kd.R_drew)); exact HO291.out)) k_ hk_)⟩)) (below_size (by repeat (first | (with_reducible first | exact HB.out | apply below_alloc | apply pw_below_drewN | apply below_drew1) | exact HB.out)))); have n3_ := Aside0.mk (below_step (by repeat (first | (with_reducible first | exact HB.out | apply below_alloc | apply pw_below_drewN | apply below_drew1) | exact HB.out)) hb); clear HO287; clear HO291; clear HB; have HO287 := n0_; have HO291 := n1_; have HO294 := n2_; have HB := n3_; clear n0_ n1_ n2_ n3_; (try clear hb); (try clear hb2); (try clear hk); (try clear hi); (try clear ho0)) | ((with_reducible refine gate_callee (f := 15) rfl ?_); refine goesL_ (some 54) rfl rfl Try.func15 (by kernel_rfl) rfl #[.slice A1 l1.length c1, .int .i64 a2, .int .i64 a3, .int .i64 a4] rfl (by (try simp only [List.map_toArray, List.map_cons, List.map_nil]); first | done | rfl | (simp only [List.length_drop, List.length_take]; rfl)) ?_; (with_reducible refine (columbariumref5_Decode.calls k _ _ l1 a2 a3 a4 t297 t298 t299 _ ?side1 ?side2 A33.out).mono ?_); (case side1 => repeat (first | exact (Kd.C_below HR1.out HB.out) | (with_reducible refine Kd.C_alloc ?_ _) | (with_reducible refine Kd.C_drewN ?_ _) | (with_reducible refine Kd.C_drew ?_))); (case side2 => exact HC1.out); rintro e w45 ⟨v300, rfl, ho0, hb⟩; refine ⟨_, rfl, ?_⟩; have n0_ := Aside0.mk (Kd.R_below (by (with_reducible repeat (first | apply Kd.R_alloc | apply Kd.R_drewN | apply Kd.R_drew)); exact HO287.out) hb); have n1_ := Aside0.mk (Kd.R_below (by (with_reducible repeat (first | apply Kd.R_alloc | apply Kd.R_drewN | apply Kd.R_drew)); exact HO291.out) hb); have n2_ := Aside0.mk (Kd.V_elder' (by (with_reducible repeat (first | apply Kd.V_alloc | apply Kd.V_drewN | apply Kd.V_drew)); exact HO294.out) (Kd.R_base ho0) hb); have n3_ := Aside0.mk (Kd.R_lower ho0 (below_size (by repeat (first | (with_reducible first | exact HB.out | apply below_alloc | apply pw_below_drewN | apply below_drew1) | exact HB.out)))); have n4_ := Aside0.mk (below_step (by repeat (first | (with_reducible first | exact HB.out | apply below_alloc | apply pw_below_drewN | apply below_drew1) | exact HB.out)) hb); clear HO287; clear HO291; clear HO294; clear HB; have HO287 := n0_; have HO291 := n1_; have HO294 := n2_; have HO301 := n3_; have HB := n4_; clear n0_ n1_ n2_ n3_ n4_; (try clear hb); (try clear hb2); (try clear hk); (try clear hi); (try clear ho0); have hcv46 := own_string (P := Try.prog) Try.underlying29 Try.underlying5 Try.underlying9 (Kd.own_of_R HO287.out); have hcv47 := own_string (P := Try.prog) Try.underlying29 Try.underlying5 Try.underlying9 (Kd.own_of_R HO291.out); obtain ⟨Ao48, co48, eo48⟩ := Kd.V_slice HO294.out; subst eo48; obtain ⟨Ao49, co49, eo49⟩ := Kd.R_slice HO301.out; subst eo49) | (go_at_call 16; (with_reducible refine (columbariumbook_Same_uint64.calls k _ _ t292 _ _ t297 true _ ?side1 ?side2 ?side3 ?side4 A36.out).mono ?_); (case side1 => repeat (first | exact (Kd.V_reads' HO294.out).2.2 | (with_reducible refine Kd.C_alloc ?_ _) | (with_reducible refine Kd.C_drewN ?_ _) | (with_reducible refine Kd.C_drew ?_))); (case side2 => exact (Kd.V_reads' HO294.out).2.1); (case side3 => repeat (first | exact (Kd.R_reads' HO301.out).2.2 | (with_reducible refine Kd.C_alloc ?_ _) | (with_reducible refine Kd.C_drewN ?_ _) | (with_reducible refine Kd.C_drew ?_))); (case side4 => exact (Kd.R_reads' HO301.out).2.1); rintro e w' ⟨rfl, ⟨nd, rfl⟩⟩) | (go_at_call 11; (with_reducible refine (columbariumlaw5_known.calls k  t303 _ A40.out).mono ?_); rintro e w50 ⟨rfl, hb⟩; have n0_ := Aside0.mk (Kd.R_below (by (with_reducible repeat (first | apply Kd.R_alloc | apply Kd.R_drewN | apply Kd.R_drew)); exact HO287.out) hb); have n1_ := Aside0.mk (Kd.R_below (by (with_reducible repeat (first | apply Kd.R_alloc | apply Kd.R_drewN | apply Kd.R_drew)); exact HO291.out) hb); have n2_ := Aside0.mk (Kd.V_below (by (with_reducible repeat (first | apply Kd.V_alloc | apply Kd.V_drewN | apply Kd.V_drew)); exact HO294.out) hb); have n3_ := Aside0.mk (Kd.R_below (by (with_reducible repeat (first | apply Kd.R_alloc | apply Kd.R_drewN | apply Kd.R_drew)); exact HO301.out) hb); have n4_ := Aside0.mk (below_step (by repeat (first | (with_reducible first | exact HB.out | apply below_alloc | apply pw_below_drewN | apply below_drew1) | exact HB.out)) hb); clear HO287; clear HO291; clear HO294; clear HO301; clear HB; have HO287 := n0_; have HO291 := n1_; have HO294 := n2_; have HO301 := n3_; have HB := n4_; clear n0_ n1_ n2_ n3_ n4_; (try clear hb); (try clear hb2); (try clear hk); (try clear hi)))
                  go_ret
                  exact ⟨by first | rfl | (simp [errW_none, errW_some] <;> rfl) | (simp [*, errW_none, errW_some] <;> rfl), by repeat (first | (with_reducible first | exact HB.out | apply below_alloc | apply pw_below_drewN | apply below_drew1) | exact HB.out)⟩
                · rw [if_neg c39] at H
                  have c39b0 : (t296 == t299) = false := beq_eq_false_iff_ne.mpr c39
                  have c39b1 : (t296 != t299) = true := bne_iff_ne.mpr c39
                  exact absurd ((Option.some.inj H).trans hrt_.out) (by decide)
              · rw [if_neg c38] at H
                have c38b0 : (t295 == t298) = false := beq_eq_false_iff_ne.mpr c38
                have c38b1 : (t295 != t298) = true := bne_iff_ne.mpr c38
                exact absurd ((Option.some.inj H).trans hrt_.out) (by decide)
            · replace c37 := Bool.eq_false_iff.mpr c37
              subst c37
              have H1 : (some false) = some r := by rw [if_neg (show ¬ (false = true) by decide)] at H; exact H
              clear H
              have H := H1
              clear H1
              exact absurd ((Option.some.inj H).trans hrt_.out) (by decide)
          · rw [if_neg c35] at H
            have c35b0 : (t285 == t289) = false := beq_eq_false_iff_ne.mpr c35
            have c35b1 : (t285 != t289) = true := bne_iff_ne.mpr c35
            exact absurd ((Option.some.inj H).trans hrt_.out) (by decide)
        · rw [if_neg c34] at H
          have c34b0 : ((strOfNums t284).toList == (strOfNums t288).toList) = false := beq_eq_false_iff_ne.mpr c34
          have c34b1 : ((strOfNums t284).toList != (strOfNums t288).toList) = true := bne_iff_ne.mpr c34
          exact absurd ((Option.some.inj H).trans hrt_.out) (by decide)
    · rw [if_neg c7] at H
      exact absurd H (by simp)
  · rw [if_neg c6] at H
    have c6b0 : decide (60 < (l0.length : Int)) = false := decide_eq_false c6
    have c6b1 : decide (60 < l0.length) = false := decide_eq_false (by omega)
    clear c6
    by_cases c51 : a3 > 3000
    · rw [if_pos c51] at H
      have c51b0 : decide (3000 < a3) = true := decide_eq_true c51
      clear c51
      replace H := Option.bind_eq_some_iff.mp H
      obtain ⟨⟨t304, t305⟩, A520, H⟩ := H
      replace H : ((columbariumref5_Encode.f k l0 a4).bind fun bt308 => ((runs_Decode.f k l1 a2 1048577 a4).bind fun bt312 => ((columbariumref5_Decode.f k l1 a2 1048577 a4).bind fun bt317 => (if (strOfNums t304).toList = (strOfNums bt308.1).toList then (if t305 = bt308.2 then ((columbariumbook_Same_uint64.f k bt312.1 bt317.1).bind fun t322 => (if t322 = true then (if bt312.2.1 = bt317.2.1 then (if bt312.2.2 = bt317.2.2 then ((columbariumlaw5_known.f k).bind fun t323 => (some t323)) else (some false)) else (some false)) else (some false))) else (some false)) else (some false))))) = some r := H
      have A52 := Aside0.mk A520
      clear A520
      replace H := Option.bind_eq_some_iff.mp H
      obtain ⟨⟨t308, t309⟩, A530, H⟩ := H
      replace H : ((runs_Decode.f k l1 a2 1048577 a4).bind fun bt312 => ((columbariumref5_Decode.f k l1 a2 1048577 a4).bind fun bt317 => (if (strOfNums t304).toList = (strOfNums t308).toList then (if t305 = t309 then ((columbariumbook_Same_uint64.f k bt312.1 bt317.1).bind fun t322 => (if t322 = true then (if bt312.2.1 = bt317.2.1 then (if bt312.2.2 = bt317.2.2 then ((columbariumlaw5_known.f k).bind fun t323 => (some t323)) else (some false)) else (some false)) else (some false))) else (some false)) else (some false)))) = some r := H
      have A53 := Aside0.mk A530
      clear A530
      replace H := Option.bind_eq_some_iff.mp H
      obtain ⟨⟨t312, t315, t316⟩, A540, H⟩ := H
      replace H : ((columbariumref5_Decode.f k l1 a2 1048577 a4).bind fun bt317 => (if (strOfNums t304).toList = (strOfNums t308).toList then (if t305 = t309 then ((columbariumbook_Same_uint64.f k t312 bt317.1).bind fun t322 => (if t322 = true then (if t315 = bt317.2.1 then (if t316 = bt317.2.2 then ((columbariumlaw5_known.f k).bind fun t323 => (some t323)) else (some false)) else (some false)) else (some false))) else (some false)) else (some false))) = some r := H
      have A54 := Aside0.mk A540
      clear A540
      replace H := Option.bind_eq_some_iff.mp H
      obtain ⟨⟨t317, t318, t319⟩, A550, H⟩ := H
      replace H : (if (strOfNums t304).toList = (strOfNums t308).toList then (if t305 = t309 then ((columbariumbook_Same_uint64.f k t312 t317).bind fun t322 => (if t322 = true then (if t315 = t318 then (if t316 = t319 then ((columbariumlaw5_known.f k).bind fun t323 => (some t323)) else (some false)) else (some false)) else (some false))) else (some false)) else (some false)) = some r := H
      have A55 := Aside0.mk A550
      clear A550
      by_cases c56 : (strOfNums t304).toList = (strOfNums t308).toList
      · rw [if_pos c56] at H
        have c56b0 : ((strOfNums t304).toList == (strOfNums t308).toList) = true := beq_iff_eq.mpr c56
        have c56b1 : ((strOfNums t304).toList != (strOfNums t308).toList) = false := bne_eq_false_iff_eq.mpr c56
        clear c56
        by_cases c57 : t305 = t309
        · rw [if_pos c57] at H
          have c57b0 : (t305 == t309) = true := beq_iff_eq.mpr c57
          have c57b1 : (t305 != t309) = false := bne_eq_false_iff_eq.mpr c57
          clear c57
          replace H := Option.bind_eq_some_iff.mp H
          obtain ⟨t322, A580, H⟩ := H
          replace H : (if t322 = true then (if t315 = t318 then (if t316 = t319 then ((columbariumlaw5_known.f k).bind fun t323 => (some t323)) else (some false)) else (some false)) else (some false)) = some r := H
          have A58 := Aside0.mk A580
          clear A580
          by_cases c59 : t322 = true
          · subst c59
            have H1 : (if t315 = t318 then (if t316 = t319 then ((columbariumlaw5_known.f k).bind fun t323 => (some t323)) else (some false)) else (some false)) = some r := by rw [if_pos rfl] at H; exact H
            clear H
            have H := H1
            clear H1
            by_cases c60 : t315 = t318
            · rw [if_pos c60] at H
              have c60b0 : (t315 == t318) = true := beq_iff_eq.mpr c60
              have c60b1 : (t315 != t318) = false := bne_eq_false_iff_eq.mpr c60
              clear c60
              by_cases c61 : t316 = t319
              · rw [if_pos c61] at H
                have c61b0 : (t316 == t319) = true := beq_iff_eq.mpr c61
                have c61b1 : (t316 != t319) = false := bne_eq_false_iff_eq.mpr c61
                clear c61
                replace H := Option.bind_eq_some_iff.mp H
                obtain ⟨t323, A620, H⟩ := H
                replace H : (some t323) = some r := H
                have A62 := Aside0.mk A620
                clear A620
                obtain rfl := Option.some.inj H
                go_enter Try.func5, Try.ntmps5
                go_wp2_with (first | ((with_reducible refine gate_callee (f := 12) rfl ?_); refine goesL_ (some 31) rfl rfl Try.func12 (by kernel_rfl) rfl #[.slice A0 l0.length c0, .int .i64 a4] rfl (by (try simp only [List.map_toArray, List.map_cons, List.map_nil]); first | done | rfl | (simp only [List.length_drop, List.length_take]; rfl)) ?_; (with_reducible refine (runs_Encode.calls k _ _ l0 a4 t304 t305 _ ?side1 ?side2 A52.out).mono ?_); (case side1 => repeat (first | exact HR0.out | (with_reducible refine Kd.C_alloc ?_ _) | (with_reducible refine Kd.C_drewN ?_ _) | (with_reducible refine Kd.C_drew ?_))); (case side2 => exact HC0.out); rintro e w63 ⟨v306, rfl, ho0, hb⟩; refine ⟨_, rfl, ?_⟩; have n0_ := Aside0.mk (Kd.R_lower ho0 (below_size (by repeat (first | (with_reducible first | exact HB.out | apply below_alloc | apply pw_below_drewN | apply below_drew1) | exact HB.out)))); have n1_ := Aside0.mk (below_step (by repeat (first | (with_reducible first | exact HB.out | apply below_alloc | apply pw_below_drewN | apply below_drew1) | exact HB.out)) hb); clear HB; have HO307 := n0_; have HB := n1_; clear n0_ n1_; (try clear hb); (try clear hb2); (try clear hk); (try clear hi); (try clear ho0)) | ((with_reducible refine gate_callee (f := 13) rfl ?_); refine goesL_ (some 37) rfl rfl Try.func13 (by kernel_rfl) rfl #[.slice A0 l0.length c0, .int .i64 a4] rfl (by (try simp only [List.map_toArray, List.map_cons, List.map_nil]); first | done | rfl | (simp only [List.length_drop, List.length_take]; rfl)) ?_; (with_reducible refine (columbariumref5_Encode.calls k _ _ l0 a4 t308 t309 _ ?side1 ?side2 A53.out).mono ?_); (case side1 => repeat (first | exact (Kd.C_below HR0.out HB.out) | (with_reducible refine Kd.C_alloc ?_ _) | (with_reducible refine Kd.C_drewN ?_ _) | (with_reducible refine Kd.C_drew ?_))); (case side2 => exact HC0.out); rintro e w64 ⟨v310, rfl, ho0, hb⟩; refine ⟨_, rfl, ?_⟩; have n0_ := Aside0.mk (Kd.R_elder' (by (with_reducible repeat (first | apply Kd.R_alloc | apply Kd.R_drewN | apply Kd.R_drew)); exact HO307.out) (Kd.R_base ho0) hb); have n1_ := Aside0.mk (Kd.R_lower (Kd.R_new' ho0 (Kd.R_lt (by (with_reducible repeat (first | apply Kd.R_alloc | apply Kd.R_drewN | apply Kd.R_drew)); exact HO307.out))) (below_size (by repeat (first | (with_reducible first | exact HB.out | apply below_alloc | apply pw_below_drewN | apply below_drew1) | exact HB.out)))); have n2_ := Aside0.mk (below_step (by repeat (first | (with_reducible first | exact HB.out | apply below_alloc | apply pw_below_drewN | apply below_drew1) | exact HB.out)) hb); clear HO307; clear HB; have HO307 := n0_; have HO311 := n1_; have HB := n2_; clear n0_ n1_ n2_; (try clear hb); (try clear hb2); (try clear hk); (try clear hi); (try clear ho0)) | ((with_reducible refine gate_callee (f := 14) rfl ?_); refine goesL_ (some 45) rfl rfl Try.func14 (by kernel_rfl) rfl #[.slice A1 l1.length c1, .int .i64 a2, .int .i64 1048577, .int .i64 a4] rfl (by (try simp only [List.map_toArray, List.map_cons, List.map_nil]); first | done | rfl | (simp only [List.length_drop, List.length_take]; rfl)) ?_; (with_reducible refine (runs_Decode.calls k _ _ l1 a2 1048577 a4 t312 t315 t316 _ ?side1 ?side2 A54.out).mono ?_); (case side1 => repeat (first | exact (Kd.C_below HR1.out HB.out) | (with_reducible refine Kd.C_alloc ?_ _) | (with_reducible refine Kd.C_drewN ?_ _) | (with_reducible refine Kd.C_drew ?_))); (case side2 => exact HC1.out); rintro e w65 ⟨v313, rfl, ho0, hb⟩; refine ⟨_, rfl, ?_⟩; have n0_ := Aside0.mk (Kd.R_below (by (with_reducible repeat (first | apply Kd.R_alloc | apply Kd.R_drewN | apply Kd.R_drew)); exact HO307.out) hb); have n1_ := Aside0.mk (Kd.R_below (by (with_reducible repeat (first | apply Kd.R_alloc | apply Kd.R_drewN | apply Kd.R_drew)); exact HO311.out) hb); have n2_ := Aside0.mk (Kd.V_lower (Kd.V_mono (ok' := fun k_ => some k_ ≠ (v306 : Value).ownBlock ∧ some k_ ≠ (v310 : Value).ownBlock) ho0 (fun k_ hk_ => ⟨(Kd.fresh' (Kd.R_lt (by (with_reducible repeat (first | apply Kd.R_alloc | apply Kd.R_drewN | apply Kd.R_drew)); exact HO307.out)) k_ hk_), (Kd.fresh' (Kd.R_lt (by (with_reducible repeat (first | apply Kd.R_alloc | apply Kd.R_drewN | apply Kd.R_drew)); exact HO311.out)) k_ hk_)⟩)) (below_size (by repeat (first | (with_reducible first | exact HB.out | apply below_alloc | apply pw_below_drewN | apply below_drew1) | exact HB.out)))); have n3_ := Aside0.mk (below_step (by repeat (first | (with_reducible first | exact HB.out | apply below_alloc | apply pw_below_drewN | apply below_drew1) | exact HB.out)) hb); clear HO307; clear HO311; clear HB; have HO307 := n0_; have HO311 := n1_; have HO314 := n2_; have HB := n3_; clear n0_ n1_ n2_ n3_; (try clear hb); (try clear hb2); (try clear hk); (try clear hi); (try clear ho0)) | ((with_reducible refine gate_callee (f := 15) rfl ?_); refine goesL_ (some 54) rfl rfl Try.func15 (by kernel_rfl) rfl #[.slice A1 l1.length c1, .int .i64 a2, .int .i64 1048577, .int .i64 a4] rfl (by (try simp only [List.map_toArray, List.map_cons, List.map_nil]); first | done | rfl | (simp only [List.length_drop, List.length_take]; rfl)) ?_; (with_reducible refine (columbariumref5_Decode.calls k _ _ l1 a2 1048577 a4 t317 t318 t319 _ ?side1 ?side2 A55.out).mono ?_); (case side1 => repeat (first | exact (Kd.C_below HR1.out HB.out) | (with_reducible refine Kd.C_alloc ?_ _) | (with_reducible refine Kd.C_drewN ?_ _) | (with_reducible refine Kd.C_drew ?_))); (case side2 => exact HC1.out); rintro e w66 ⟨v320, rfl, ho0, hb⟩; refine ⟨_, rfl, ?_⟩; have n0_ := Aside0.mk (Kd.R_below (by (with_reducible repeat (first | apply Kd.R_alloc | apply Kd.R_drewN | apply Kd.R_drew)); exact HO307.out) hb); have n1_ := Aside0.mk (Kd.R_below (by (with_reducible repeat (first | apply Kd.R_alloc | apply Kd.R_drewN | apply Kd.R_drew)); exact HO311.out) hb); have n2_ := Aside0.mk (Kd.V_elder' (by (with_reducible repeat (first | apply Kd.V_alloc | apply Kd.V_drewN | apply Kd.V_drew)); exact HO314.out) (Kd.R_base ho0) hb); have n3_ := Aside0.mk (Kd.R_lower ho0 (below_size (by repeat (first | (with_reducible first | exact HB.out | apply below_alloc | apply pw_below_drewN | apply below_drew1) | exact HB.out)))); have n4_ := Aside0.mk (below_step (by repeat (first | (with_reducible first | exact HB.out | apply below_alloc | apply pw_below_drewN | apply below_drew1) | exact HB.out)) hb); clear HO307; clear HO311; clear HO314; clear HB; have HO307 := n0_; have HO311 := n1_; have HO314 := n2_; have HO321 := n3_; have HB := n4_; clear n0_ n1_ n2_ n3_ n4_; (try clear hb); (try clear hb2); (try clear hk); (try clear hi); (try clear ho0); have hcv67 := own_string (P := Try.prog) Try.underlying29 Try.underlying5 Try.underlying9 (Kd.own_of_R HO307.out); have hcv68 := own_string (P := Try.prog) Try.underlying29 Try.underlying5 Try.underlying9 (Kd.own_of_R HO311.out); obtain ⟨Ao69, co69, eo69⟩ := Kd.V_slice HO314.out; subst eo69; obtain ⟨Ao70, co70, eo70⟩ := Kd.R_slice HO321.out; subst eo70) | (go_at_call 16; (with_reducible refine (columbariumbook_Same_uint64.calls k _ _ t312 _ _ t317 true _ ?side1 ?side2 ?side3 ?side4 A58.out).mono ?_); (case side1 => repeat (first | exact (Kd.V_reads' HO314.out).2.2 | (with_reducible refine Kd.C_alloc ?_ _) | (with_reducible refine Kd.C_drewN ?_ _) | (with_reducible refine Kd.C_drew ?_))); (case side2 => exact (Kd.V_reads' HO314.out).2.1); (case side3 => repeat (first | exact (Kd.R_reads' HO321.out).2.2 | (with_reducible refine Kd.C_alloc ?_ _) | (with_reducible refine Kd.C_drewN ?_ _) | (with_reducible refine Kd.C_drew ?_))); (case side4 => exact (Kd.R_reads' HO321.out).2.1); rintro e w' ⟨rfl, ⟨nd, rfl⟩⟩) | (go_at_call 11; (with_reducible refine (columbariumlaw5_known.calls k  t323 _ A62.out).mono ?_); rintro e w71 ⟨rfl, hb⟩; have n0_ := Aside0.mk (Kd.R_below (by (with_reducible repeat (first | apply Kd.R_alloc | apply Kd.R_drewN | apply Kd.R_drew)); exact HO307.out) hb); have n1_ := Aside0.mk (Kd.R_below (by (with_reducible repeat (first | apply Kd.R_alloc | apply Kd.R_drewN | apply Kd.R_drew)); exact HO311.out) hb); have n2_ := Aside0.mk (Kd.V_below (by (with_reducible repeat (first | apply Kd.V_alloc | apply Kd.V_drewN | apply Kd.V_drew)); exact HO314.out) hb); have n3_ := Aside0.mk (Kd.R_below (by (with_reducible repeat (first | apply Kd.R_alloc | apply Kd.R_drewN | apply Kd.R_drew)); exact HO321.out) hb); have n4_ := Aside0.mk (below_step (by repeat (first | (with_reducible first | exact HB.out | apply below_alloc | apply pw_below_drewN | apply below_drew1) | exact HB.out)) hb); clear HO307; clear HO311; clear HO314; clear HO321; clear HB; have HO307 := n0_; have HO311 := n1_; have HO314 := n2_; have HO321 := n3_; have HB := n4_; clear n0_ n1_ n2_ n3_ n4_; (try clear hb); (try clear hb2); (try clear hk); (try clear hi)))
                go_ret
                exact ⟨by first | rfl | (simp [errW_none, errW_some] <;> rfl) | (simp [*, errW_none, errW_some] <;> rfl), by repeat (first | (with_reducible first | exact HB.out | apply below_alloc | apply pw_below_drewN | apply below_drew1) | exact HB.out)⟩
              · rw [if_neg c61] at H
                have c61b0 : (t316 == t319) = false := beq_eq_false_iff_ne.mpr c61
                have c61b1 : (t316 != t319) = true := bne_iff_ne.mpr c61
                exact absurd ((Option.some.inj H).trans hrt_.out) (by decide)
            · rw [if_neg c60] at H
              have c60b0 : (t315 == t318) = false := beq_eq_false_iff_ne.mpr c60
              have c60b1 : (t315 != t318) = true := bne_iff_ne.mpr c60
              exact absurd ((Option.some.inj H).trans hrt_.out) (by decide)
          · replace c59 := Bool.eq_false_iff.mpr c59
            subst c59
            have H1 : (some false) = some r := by rw [if_neg (show ¬ (false = true) by decide)] at H; exact H
            clear H
            have H := H1
            clear H1
            exact absurd ((Option.some.inj H).trans hrt_.out) (by decide)
        · rw [if_neg c57] at H
          have c57b0 : (t305 == t309) = false := beq_eq_false_iff_ne.mpr c57
          have c57b1 : (t305 != t309) = true := bne_iff_ne.mpr c57
          exact absurd ((Option.some.inj H).trans hrt_.out) (by decide)
      · rw [if_neg c56] at H
        have c56b0 : ((strOfNums t304).toList == (strOfNums t308).toList) = false := beq_eq_false_iff_ne.mpr c56
        have c56b1 : ((strOfNums t304).toList != (strOfNums t308).toList) = true := bne_iff_ne.mpr c56
        exact absurd ((Option.some.inj H).trans hrt_.out) (by decide)
    · rw [if_neg c51] at H
      have c51b0 : decide (3000 < a3) = false := decide_eq_false c51
      clear c51
      replace H := Option.bind_eq_some_iff.mp H
      obtain ⟨⟨t324, t325⟩, A720, H⟩ := H
      replace H : ((columbariumref5_Encode.f k l0 a4).bind fun bt328 => ((runs_Decode.f k l1 a2 a3 a4).bind fun bt332 => ((columbariumref5_Decode.f k l1 a2 a3 a4).bind fun bt337 => (if (strOfNums t324).toList = (strOfNums bt328.1).toList then (if t325 = bt328.2 then ((columbariumbook_Same_uint64.f k bt332.1 bt337.1).bind fun t342 => (if t342 = true then (if bt332.2.1 = bt337.2.1 then (if bt332.2.2 = bt337.2.2 then ((columbariumlaw5_known.f k).bind fun t343 => (some t343)) else (some false)) else (some false)) else (some false))) else (some false)) else (some false))))) = some r := H
      have A72 := Aside0.mk A720
      clear A720
      replace H := Option.bind_eq_some_iff.mp H
      obtain ⟨⟨t328, t329⟩, A730, H⟩ := H
      replace H : ((runs_Decode.f k l1 a2 a3 a4).bind fun bt332 => ((columbariumref5_Decode.f k l1 a2 a3 a4).bind fun bt337 => (if (strOfNums t324).toList = (strOfNums t328).toList then (if t325 = t329 then ((columbariumbook_Same_uint64.f k bt332.1 bt337.1).bind fun t342 => (if t342 = true then (if bt332.2.1 = bt337.2.1 then (if bt332.2.2 = bt337.2.2 then ((columbariumlaw5_known.f k).bind fun t343 => (some t343)) else (some false)) else (some false)) else (some false))) else (some false)) else (some false)))) = some r := H
      have A73 := Aside0.mk A730
      clear A730
      replace H := Option.bind_eq_some_iff.mp H
      obtain ⟨⟨t332, t335, t336⟩, A740, H⟩ := H
      replace H : ((columbariumref5_Decode.f k l1 a2 a3 a4).bind fun bt337 => (if (strOfNums t324).toList = (strOfNums t328).toList then (if t325 = t329 then ((columbariumbook_Same_uint64.f k t332 bt337.1).bind fun t342 => (if t342 = true then (if t335 = bt337.2.1 then (if t336 = bt337.2.2 then ((columbariumlaw5_known.f k).bind fun t343 => (some t343)) else (some false)) else (some false)) else (some false))) else (some false)) else (some false))) = some r := H
      have A74 := Aside0.mk A740
      clear A740
      replace H := Option.bind_eq_some_iff.mp H
      obtain ⟨⟨t337, t338, t339⟩, A750, H⟩ := H
      replace H : (if (strOfNums t324).toList = (strOfNums t328).toList then (if t325 = t329 then ((columbariumbook_Same_uint64.f k t332 t337).bind fun t342 => (if t342 = true then (if t335 = t338 then (if t336 = t339 then ((columbariumlaw5_known.f k).bind fun t343 => (some t343)) else (some false)) else (some false)) else (some false))) else (some false)) else (some false)) = some r := H
      have A75 := Aside0.mk A750
      clear A750
      by_cases c76 : (strOfNums t324).toList = (strOfNums t328).toList
      · rw [if_pos c76] at H
        have c76b0 : ((strOfNums t324).toList == (strOfNums t328).toList) = true := beq_iff_eq.mpr c76
        have c76b1 : ((strOfNums t324).toList != (strOfNums t328).toList) = false := bne_eq_false_iff_eq.mpr c76
        clear c76
        by_cases c77 : t325 = t329
        · rw [if_pos c77] at H
          have c77b0 : (t325 == t329) = true := beq_iff_eq.mpr c77
          have c77b1 : (t325 != t329) = false := bne_eq_false_iff_eq.mpr c77
          clear c77
          replace H := Option.bind_eq_some_iff.mp H
          obtain ⟨t342, A780, H⟩ := H
          replace H : (if t342 = true then (if t335 = t338 then (if t336 = t339 then ((columbariumlaw5_known.f k).bind fun t343 => (some t343)) else (some false)) else (some false)) else (some false)) = some r := H
          have A78 := Aside0.mk A780
          clear A780
          by_cases c79 : t342 = true
          · subst c79
            have H1 : (if t335 = t338 then (if t336 = t339 then ((columbariumlaw5_known.f k).bind fun t343 => (some t343)) else (some false)) else (some false)) = some r := by rw [if_pos rfl] at H; exact H
            clear H
            have H := H1
            clear H1
            by_cases c80 : t335 = t338
            · rw [if_pos c80] at H
              have c80b0 : (t335 == t338) = true := beq_iff_eq.mpr c80
              have c80b1 : (t335 != t338) = false := bne_eq_false_iff_eq.mpr c80
              clear c80
              by_cases c81 : t336 = t339
              · rw [if_pos c81] at H
                have c81b0 : (t336 == t339) = true := beq_iff_eq.mpr c81
                have c81b1 : (t336 != t339) = false := bne_eq_false_iff_eq.mpr c81
                clear c81
                replace H := Option.bind_eq_some_iff.mp H
                obtain ⟨t343, A820, H⟩ := H
                replace H : (some t343) = some r := H
                have A82 := Aside0.mk A820
                clear A820
                obtain rfl := Option.some.inj H
                go_enter Try.func5, Try.ntmps5
                go_wp2_with (first | ((with_reducible refine gate_callee (f := 12) rfl ?_); refine goesL_ (some 31) rfl rfl Try.func12 (by kernel_rfl) rfl #[.slice A0 l0.length c0, .int .i64 a4] rfl (by (try simp only [List.map_toArray, List.map_cons, List.map_nil]); first | done | rfl | (simp only [List.length_drop, List.length_take]; rfl)) ?_; (with_reducible refine (runs_Encode.calls k _ _ l0 a4 t324 t325 _ ?side1 ?side2 A72.out).mono ?_); (case side1 => repeat (first | exact HR0.out | (with_reducible refine Kd.C_alloc ?_ _) | (with_reducible refine Kd.C_drewN ?_ _) | (with_reducible refine Kd.C_drew ?_))); (case side2 => exact HC0.out); rintro e w83 ⟨v326, rfl, ho0, hb⟩; refine ⟨_, rfl, ?_⟩; have n0_ := Aside0.mk (Kd.R_lower ho0 (below_size (by repeat (first | (with_reducible first | exact HB.out | apply below_alloc | apply pw_below_drewN | apply below_drew1) | exact HB.out)))); have n1_ := Aside0.mk (below_step (by repeat (first | (with_reducible first | exact HB.out | apply below_alloc | apply pw_below_drewN | apply below_drew1) | exact HB.out)) hb); clear HB; have HO327 := n0_; have HB := n1_; clear n0_ n1_; (try clear hb); (try clear hb2); (try clear hk); (try clear hi); (try clear ho0)) | ((with_reducible refine gate_callee (f := 13) rfl ?_); refine goesL_ (some 37) rfl rfl Try.func13 (by kernel_rfl) rfl #[.slice A0 l0.length c0, .int .i64 a4] rfl (by (try simp only [List.map_toArray, List.map_cons, List.map_nil]); first | done | rfl | (simp only [List.length_drop, List.length_take]; rfl)) ?_; (with_reducible refine (columbariumref5_Encode.calls k _ _ l0 a4 t328 t329 _ ?side1 ?side2 A73.out).mono ?_); (case side1 => repeat (first | exact (Kd.C_below HR0.out HB.out) | (with_reducible refine Kd.C_alloc ?_ _) | (with_reducible refine Kd.C_drewN ?_ _) | (with_reducible refine Kd.C_drew ?_))); (case side2 => exact HC0.out); rintro e w84 ⟨v330, rfl, ho0, hb⟩; refine ⟨_, rfl, ?_⟩; have n0_ := Aside0.mk (Kd.R_elder' (by (with_reducible repeat (first | apply Kd.R_alloc | apply Kd.R_drewN | apply Kd.R_drew)); exact HO327.out) (Kd.R_base ho0) hb); have n1_ := Aside0.mk (Kd.R_lower (Kd.R_new' ho0 (Kd.R_lt (by (with_reducible repeat (first | apply Kd.R_alloc | apply Kd.R_drewN | apply Kd.R_drew)); exact HO327.out))) (below_size (by repeat (first | (with_reducible first | exact HB.out | apply below_alloc | apply pw_below_drewN | apply below_drew1) | exact HB.out)))); have n2_ := Aside0.mk (below_step (by repeat (first | (with_reducible first | exact HB.out | apply below_alloc | apply pw_below_drewN | apply below_drew1) | exact HB.out)) hb); clear HO327; clear HB; have HO327 := n0_; have HO331 := n1_; have HB := n2_; clear n0_ n1_ n2_; (try clear hb); (try clear hb2); (try clear hk); (try clear hi); (try clear ho0)) | ((with_reducible refine gate_callee (f := 14) rfl ?_); refine goesL_ (some 45) rfl rfl Try.func14 (by kernel_rfl) rfl #[.slice A1 l1.length c1, .int .i64 a2, .int .i64 a3, .int .i64 a4] rfl (by (try simp only [List.map_toArray, List.map_cons, List.map_nil]); first | done | rfl | (simp only [List.length_drop, List.length_take]; rfl)) ?_; (with_reducible refine (runs_Decode.calls k _ _ l1 a2 a3 a4 t332 t335 t336 _ ?side1 ?side2 A74.out).mono ?_); (case side1 => repeat (first | exact (Kd.C_below HR1.out HB.out) | (with_reducible refine Kd.C_alloc ?_ _) | (with_reducible refine Kd.C_drewN ?_ _) | (with_reducible refine Kd.C_drew ?_))); (case side2 => exact HC1.out); rintro e w85 ⟨v333, rfl, ho0, hb⟩; refine ⟨_, rfl, ?_⟩; have n0_ := Aside0.mk (Kd.R_below (by (with_reducible repeat (first | apply Kd.R_alloc | apply Kd.R_drewN | apply Kd.R_drew)); exact HO327.out) hb); have n1_ := Aside0.mk (Kd.R_below (by (with_reducible repeat (first | apply Kd.R_alloc | apply Kd.R_drewN | apply Kd.R_drew)); exact HO331.out) hb); have n2_ := Aside0.mk (Kd.V_lower (Kd.V_mono (ok' := fun k_ => some k_ ≠ (v326 : Value).ownBlock ∧ some k_ ≠ (v330 : Value).ownBlock) ho0 (fun k_ hk_ => ⟨(Kd.fresh' (Kd.R_lt (by (with_reducible repeat (first | apply Kd.R_alloc | apply Kd.R_drewN | apply Kd.R_drew)); exact HO327.out)) k_ hk_), (Kd.fresh' (Kd.R_lt (by (with_reducible repeat (first | apply Kd.R_alloc | apply Kd.R_drewN | apply Kd.R_drew)); exact HO331.out)) k_ hk_)⟩)) (below_size (by repeat (first | (with_reducible first | exact HB.out | apply below_alloc | apply pw_below_drewN | apply below_drew1) | exact HB.out)))); have n3_ := Aside0.mk (below_step (by repeat (first | (with_reducible first | exact HB.out | apply below_alloc | apply pw_below_drewN | apply below_drew1) | exact HB.out)) hb); clear HO327; clear HO331; clear HB; have HO327 := n0_; have HO331 := n1_; have HO334 := n2_; have HB := n3_; clear n0_ n1_ n2_ n3_; (try clear hb); (try clear hb2); (try clear hk); (try clear hi); (try clear ho0)) | ((with_reducible refine gate_callee (f := 15) rfl ?_); refine goesL_ (some 54) rfl rfl Try.func15 (by kernel_rfl) rfl #[.slice A1 l1.length c1, .int .i64 a2, .int .i64 a3, .int .i64 a4] rfl (by (try simp only [List.map_toArray, List.map_cons, List.map_nil]); first | done | rfl | (simp only [List.length_drop, List.length_take]; rfl)) ?_; (with_reducible refine (columbariumref5_Decode.calls k _ _ l1 a2 a3 a4 t337 t338 t339 _ ?side1 ?side2 A75.out).mono ?_); (case side1 => repeat (first | exact (Kd.C_below HR1.out HB.out) | (with_reducible refine Kd.C_alloc ?_ _) | (with_reducible refine Kd.C_drewN ?_ _) | (with_reducible refine Kd.C_drew ?_))); (case side2 => exact HC1.out); rintro e w86 ⟨v340, rfl, ho0, hb⟩; refine ⟨_, rfl, ?_⟩; have n0_ := Aside0.mk (Kd.R_below (by (with_reducible repeat (first | apply Kd.R_alloc | apply Kd.R_drewN | apply Kd.R_drew)); exact HO327.out) hb); have n1_ := Aside0.mk (Kd.R_below (by (with_reducible repeat (first | apply Kd.R_alloc | apply Kd.R_drewN | apply Kd.R_drew)); exact HO331.out) hb); have n2_ := Aside0.mk (Kd.V_elder' (by (with_reducible repeat (first | apply Kd.V_alloc | apply Kd.V_drewN | apply Kd.V_drew)); exact HO334.out) (Kd.R_base ho0) hb); have n3_ := Aside0.mk (Kd.R_lower ho0 (below_size (by repeat (first | (with_reducible first | exact HB.out | apply below_alloc | apply pw_below_drewN | apply below_drew1) | exact HB.out)))); have n4_ := Aside0.mk (below_step (by repeat (first | (with_reducible first | exact HB.out | apply below_alloc | apply pw_below_drewN | apply below_drew1) | exact HB.out)) hb); clear HO327; clear HO331; clear HO334; clear HB; have HO327 := n0_; have HO331 := n1_; have HO334 := n2_; have HO341 := n3_; have HB := n4_; clear n0_ n1_ n2_ n3_ n4_; (try clear hb); (try clear hb2); (try clear hk); (try clear hi); (try clear ho0); have hcv87 := own_string (P := Try.prog) Try.underlying29 Try.underlying5 Try.underlying9 (Kd.own_of_R HO327.out); have hcv88 := own_string (P := Try.prog) Try.underlying29 Try.underlying5 Try.underlying9 (Kd.own_of_R HO331.out); obtain ⟨Ao89, co89, eo89⟩ := Kd.V_slice HO334.out; subst eo89; obtain ⟨Ao90, co90, eo90⟩ := Kd.R_slice HO341.out; subst eo90) | (go_at_call 16; (with_reducible refine (columbariumbook_Same_uint64.calls k _ _ t332 _ _ t337 true _ ?side1 ?side2 ?side3 ?side4 A78.out).mono ?_); (case side1 => repeat (first | exact (Kd.V_reads' HO334.out).2.2 | (with_reducible refine Kd.C_alloc ?_ _) | (with_reducible refine Kd.C_drewN ?_ _) | (with_reducible refine Kd.C_drew ?_))); (case side2 => exact (Kd.V_reads' HO334.out).2.1); (case side3 => repeat (first | exact (Kd.R_reads' HO341.out).2.2 | (with_reducible refine Kd.C_alloc ?_ _) | (with_reducible refine Kd.C_drewN ?_ _) | (with_reducible refine Kd.C_drew ?_))); (case side4 => exact (Kd.R_reads' HO341.out).2.1); rintro e w' ⟨rfl, ⟨nd, rfl⟩⟩) | (go_at_call 11; (with_reducible refine (columbariumlaw5_known.calls k  t343 _ A82.out).mono ?_); rintro e w91 ⟨rfl, hb⟩; have n0_ := Aside0.mk (Kd.R_below (by (with_reducible repeat (first | apply Kd.R_alloc | apply Kd.R_drewN | apply Kd.R_drew)); exact HO327.out) hb); have n1_ := Aside0.mk (Kd.R_below (by (with_reducible repeat (first | apply Kd.R_alloc | apply Kd.R_drewN | apply Kd.R_drew)); exact HO331.out) hb); have n2_ := Aside0.mk (Kd.V_below (by (with_reducible repeat (first | apply Kd.V_alloc | apply Kd.V_drewN | apply Kd.V_drew)); exact HO334.out) hb); have n3_ := Aside0.mk (Kd.R_below (by (with_reducible repeat (first | apply Kd.R_alloc | apply Kd.R_drewN | apply Kd.R_drew)); exact HO341.out) hb); have n4_ := Aside0.mk (below_step (by repeat (first | (with_reducible first | exact HB.out | apply below_alloc | apply pw_below_drewN | apply below_drew1) | exact HB.out)) hb); clear HO327; clear HO331; clear HO334; clear HO341; clear HB; have HO327 := n0_; have HO331 := n1_; have HO334 := n2_; have HO341 := n3_; have HB := n4_; clear n0_ n1_ n2_ n3_ n4_; (try clear hb); (try clear hb2); (try clear hk); (try clear hi)))
                go_ret
                exact ⟨by first | rfl | (simp [errW_none, errW_some] <;> rfl) | (simp [*, errW_none, errW_some] <;> rfl), by repeat (first | (with_reducible first | exact HB.out | apply below_alloc | apply pw_below_drewN | apply below_drew1) | exact HB.out)⟩
              · rw [if_neg c81] at H
                have c81b0 : (t336 == t339) = false := beq_eq_false_iff_ne.mpr c81
                have c81b1 : (t336 != t339) = true := bne_iff_ne.mpr c81
                exact absurd ((Option.some.inj H).trans hrt_.out) (by decide)
            · rw [if_neg c80] at H
              have c80b0 : (t335 == t338) = false := beq_eq_false_iff_ne.mpr c80
              have c80b1 : (t335 != t338) = true := bne_iff_ne.mpr c80
              exact absurd ((Option.some.inj H).trans hrt_.out) (by decide)
          · replace c79 := Bool.eq_false_iff.mpr c79
            subst c79
            have H1 : (some false) = some r := by rw [if_neg (show ¬ (false = true) by decide)] at H; exact H
            clear H
            have H := H1
            clear H1
            exact absurd ((Option.some.inj H).trans hrt_.out) (by decide)
        · rw [if_neg c77] at H
          have c77b0 : (t325 == t329) = false := beq_eq_false_iff_ne.mpr c77
          have c77b1 : (t325 != t329) = true := bne_iff_ne.mpr c77
          exact absurd ((Option.some.inj H).trans hrt_.out) (by decide)
      · rw [if_neg c76] at H
        have c76b0 : ((strOfNums t324).toList == (strOfNums t328).toList) = false := beq_eq_false_iff_ne.mpr c76
        have c76b1 : ((strOfNums t324).toList != (strOfNums t328).toList) = true := bne_iff_ne.mpr c76
        exact absurd ((Option.some.inj H).trans hrt_.out) (by decide)

/-- THE ONE PURE STATEMENT of columbariumlaw5_RunsTells: yours. -/
def columbariumlaw5_RunsTells.Pure : Prop := ∀ (l0 : List Int) (l1 : List Int) (a2 : Int) (a3 : Int) (a4 : Int), l0.length ≤ maxLen → l0.length * 8 ≤ 140737488351232 → (∀ x ∈ l0, (Lit.int .u64 x).wf = true) → l1.length ≤ maxLen → l1.length * 1 ≤ 140737488351232 → (∀ x ∈ l1, (Lit.int .u8 x).wf = true) → (Lit.int .i64 a2).wf = true → (Lit.int .i64 a3).wf = true → (Lit.int .i64 a4).wf = true → ∃ k, columbariumlaw5_RunsTells.f k l0 l1 a2 a3 a4 = some true
theorem columbariumlaw5_RunsTells.walk (P : columbariumlaw5_RunsTells.Pure) (a0 : Option Addr) (len0 cap0 : Nat) (z0 : List Int) (a1 : Option Addr) (len1 cap1 : Nat) (z1 : List Int) (a2 : Int) (a3 : Int) (a4 : Int) (w : World) (w0 : (a0 = none ∧ len0 = 0 ∧ cap0 = 0 ∧ z0 = []) ∨ ∃ x, a0 = some x ∧ len0 ≤ cap0 ∧ cap0 ≤ maxLen ∧ z0.length = cap0 ∧ (∀ i, i < z0.length → w.cell? (x.add i) = some (.int .u64 (z0.getD i 0))) ∧ ∀ n ∈ z0, (Lit.int .u64 n).wf = true) (y0 : len0 * 8 ≤ 140737488351232) (w1 : (a1 = none ∧ len1 = 0 ∧ cap1 = 0 ∧ z1 = []) ∨ ∃ x, a1 = some x ∧ len1 ≤ cap1 ∧ cap1 ≤ maxLen ∧ z1.length = cap1 ∧ (∀ i, i < z1.length → w.cell? (x.add i) = some (.int .u8 (z1.getD i 0))) ∧ ∀ n ∈ z1, (Lit.int .u8 n).wf = true) (y1 : len1 * 1 ≤ 140737488351232) (w2 : (Lit.int .i64 a2).wf = true) (w3 : (Lit.int .i64 a3).wf = true) (w4 : (Lit.int .i64 a4).wf = true) :
    Calls Try.prog 5 #[.slice a0 len0 cap0, .slice a1 len1 cap1, .int .i64 a2, .int .i64 a3, .int .i64 a4] w fun e w' => e = .returned (.bool true) ∧ Below w.heap.size w w' := by
  obtain ⟨l0, rfl, hr0, hm0, hw0, hc0⟩ := ReadsInt.ofRowC w0
  obtain ⟨l1, rfl, hr1, hm1, hw1, hc1⟩ := ReadsInt.ofRowC w1
  obtain ⟨k, h⟩ := P l0 l1 a2 a3 a4 hm0 y0 hw0 hm1 y1 hw1 w2 w3 w4
  refine (columbariumlaw5_RunsTells.calls k _ _ l0 _ _ l1 a2 a3 a4 true w (Kd.C_of_reads (d := (0 : Int)) (h1 := fun _ => rfl) hr0) hc0 (Kd.C_of_reads (d := (0 : Int)) (h1 := fun _ => rfl) hr1) hc1 ⟨rfl⟩ h).mono ?_
  rintro e w' ⟨rfl, hd⟩
  exact ⟨rfl, hd⟩

end Go.Proofs.Ytpnnfkefddkjcaa.QRunsTells
