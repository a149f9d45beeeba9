-- Written by a program of this session (wip/myprint.py): the machine's side of a law
import Derived.Test.YtllboaghcfeepaaQDictFindsx0
import Derived.Test.YtllboaghcfeepaaQDictFindsx1
import Derived.Test.YtllboaghcfeepaaQDictFindsx2
import Derived.Test.YtllboaghcfeepaaQDictFindsx3
namespace Go.Proofs.Ytllboaghcfeepaa.QDictFinds
open Go.RowKit Go.Proofs.YtllboaghcfeepaaW.PrintWords Go.Proofs.YtllboaghcfeepaaW.PrintLast Go.Proofs.YtllboaghcfeepaaW.PrintMore
attribute [local go_sem] max2_int min2_int max_two min_two max_three min_three max_four min_four   -- for this text's walks alone
set_option linter.unusedVariables false
set_option linter.unusedSimpArgs false

/-! ### columbariumlaw7_DictFinds: function 5 -/
mutual
def columbariumlaw7_DictFinds.l0 : Nat → ByteArray → List ByteArray → Bool → Int → Option (Bool)
  | 0, _, _, _, _ => none
  | k + 1, x1, x5, x7, x8 => if x8 < (x5.length : Int) then (if x7 = true then (columbariumlaw7_DictFinds.l0 k x1 x5 true (wrap64 (x8 + 1))) else (if 0 ≤ x8 then (columbariumlaw7_DictFinds.l0 k x1 x5 ((rdOf ByteArray.empty x5 x8).toList == x1.toList) (wrap64 (x8 + 1))) else (none))) else ((dict_Find.f k x5 x1).bind fun bt203 => (if (bt203.2 != x7) = true then (columbariumlaw7_DictFinds.j1 k x1 x5 bt203.1 bt203.2 true) else (if bt203.2 = true then (if 0 ≤ bt203.1 then (if bt203.1 < (x5.length : Int) then (if (rdOf ByteArray.empty x5 bt203.1).toList = x1.toList then (columbariumlaw7_DictFinds.j1 k x1 x5 bt203.1 bt203.2 false) else (columbariumlaw7_DictFinds.j1 k x1 x5 bt203.1 bt203.2 true)) else (none)) else (none)) else (columbariumlaw7_DictFinds.j1 k x1 x5 bt203.1 bt203.2 (bt203.1 != 0)))))
def columbariumlaw7_DictFinds.j1 : Nat → ByteArray → List ByteArray → Int → Bool → Bool → Option (Bool)
  | 0, _, _, _, _, _ => none
  | k + 1, x1, x5, x9, x10, x63 => if x63 = true then (some false) else ((dict_From.f k x5 (⟨#[]⟩ : ByteArray)).bind fun bt206 => ((dict_From.f k x5 x1).bind fun bt208 => (if x10 = true then (if bt208.1 = x9 then (columbariumlaw7_DictFinds.j2 k x5 bt206.1 bt206.2 bt208.1 bt208.2 (decide (bt208.2 ≤ x9))) else (columbariumlaw7_DictFinds.j2 k x5 bt206.1 bt206.2 bt208.1 bt208.2 true)) else (columbariumlaw7_DictFinds.j2 k x5 bt206.1 bt206.2 bt208.1 bt208.2 false))))
def columbariumlaw7_DictFinds.j2 : Nat → List ByteArray → Int → Int → Int → Int → Bool → Option (Bool)
  | 0, _, _, _, _, _, _ => none
  | k + 1, x5, x11, x12, x13, x14, x85 => if x85 = true then (some false) else (if x11 = 0 then (if x12 = (x5.length : Int) then (if x13 ≤ x14 then ((dict_Fits.f k x5).bind fun t210 => (if (x5.length : Int) ≤ 16 then ((columbariumlaw7_short.f k x5).bind fun t211 => (if (t210 == t211) = true then ((columbariumlaw7_known.f k).bind fun t212 => (some t212)) else (some false))) else (if (t210 == false) = true then ((columbariumlaw7_known.f k).bind fun t213 => (some t213)) else (some false)))) else (some false)) else (some false)) else (some false))
end
def columbariumlaw7_DictFinds.f (k : Nat) (l0 : List ByteArray) (a1 : ByteArray) : Option (Bool) := (columbariumlaw7_few.f k l0).bind fun t193 => ((dict_Build.f k t193).bind fun bt196 => (columbariumlaw7_DictFinds.l0 k a1 bt196.1 false 0))
theorem columbariumlaw7_DictFinds.mono_l : ∀ k, (∀ y0 y1 y2 y3, LeO (columbariumlaw7_DictFinds.l0 k y0 y1 y2 y3) (columbariumlaw7_DictFinds.l0 (k + 1) y0 y1 y2 y3)) ∧ (∀ y0 y1 y2 y3 y4, LeO (columbariumlaw7_DictFinds.j1 k y0 y1 y2 y3 y4) (columbariumlaw7_DictFinds.j1 (k + 1) y0 y1 y2 y3 y4)) ∧ (∀ y0 y1 y2 y3 y4 y5, LeO (columbariumlaw7_DictFinds.j2 k y0 y1 y2 y3 y4 y5) (columbariumlaw7_DictFinds.j2 (k + 1) y0 y1 y2 y3 y4 y5))
  | 0 => ⟨fun _ _ _ _ r h => by simp [columbariumlaw7_DictFinds.l0] at h, fun _ _ _ _ _ r h => by simp [columbariumlaw7_DictFinds.j1] at h, fun _ _ _ _ _ _ r h => by simp [columbariumlaw7_DictFinds.j2] at h⟩
  | k + 1 => by
    obtain ⟨ih0, ih1, ih2⟩ := columbariumlaw7_DictFinds.mono_l k
    refine ⟨?_, ?_, ?_⟩
    · intro y0 y1 y2 y3
      unfold columbariumlaw7_DictFinds.l0
      repeat' first
      | (with_reducible exact ih0 _ _ _ _)
      | (with_reducible exact ih1 _ _ _ _ _)
      | (with_reducible exact ih2 _ _ _ _ _ _)
      | (with_reducible exact columbariumlaw7_few.mono _ _)
      | (with_reducible exact columbariumlaw7_known.mono _)
      | (with_reducible exact columbariumlaw7_short.mono _ _)
      | (with_reducible exact dict_Build.mono _ _)
      | (with_reducible exact dict_Find.mono _ _ _)
      | (with_reducible exact dict_Fits.mono _ _)
      | (with_reducible exact dict_From.mono _ _ _)
      | (with_reducible exact LeO.refl _)
      | (with_reducible exact LeO.none _)
      | (with_reducible refine LeO.ite ?_ ?_)
      | (with_reducible refine LeO.bind ?_ (fun _ => ?_))
      | exact ih0 _ _ _ _
      | exact ih1 _ _ _ _ _
      | exact ih2 _ _ _ _ _ _
      | exact columbariumlaw7_few.mono _ _
      | exact columbariumlaw7_known.mono _
      | exact columbariumlaw7_short.mono _ _
      | exact dict_Build.mono _ _
      | exact dict_Find.mono _ _ _
      | exact dict_Fits.mono _ _
      | exact dict_From.mono _ _ _
      | exact LeO.none _
      | refine LeO.ite ?_ ?_
      | refine LeO.bind ?_ (fun _ => ?_)
    · intro y0 y1 y2 y3 y4
      unfold columbariumlaw7_DictFinds.j1
      repeat' first
      | (with_reducible exact ih0 _ _ _ _)
      | (with_reducible exact ih1 _ _ _ _ _)
      | (with_reducible exact ih2 _ _ _ _ _ _)
      | (with_reducible exact columbariumlaw7_few.mono _ _)
      | (with_reducible exact columbariumlaw7_known.mono _)
      | (with_reducible exact columbariumlaw7_short.mono _ _)
      | (with_reducible exact dict_Build.mono _ _)
      | (with_reducible exact dict_Find.mono _ _ _)
      | (with_reducible exact dict_Fits.mono _ _)
      | (with_reducible exact dict_From.mono _ _ _)
      | (with_reducible exact LeO.refl _)
      | (with_reducible exact LeO.none _)
      | (with_reducible refine LeO.ite ?_ ?_)
      | (with_reducible refine LeO.bind ?_ (fun _ => ?_))
      | exact ih0 _ _ _ _
      | exact ih1 _ _ _ _ _
      | exact ih2 _ _ _ _ _ _
      | exact columbariumlaw7_few.mono _ _
      | exact columbariumlaw7_known.mono _
      | exact columbariumlaw7_short.mono _ _
      | exact dict_Build.mono _ _
      | exact dict_Find.mono _ _ _
      | exact dict_Fits.mono _ _
      | exact dict_From.mono _ _ _
      | exact LeO.none _
      | refine LeO.ite ?_ ?_
      | refine LeO.bind ?_ (fun _ => ?_)
    · intro y0 y1 y2 y3 y4 y5
      unfold columbariumlaw7_DictFinds.j2
      repeat' first
      | (with_reducible exact ih0 _ _ _ _)
      | (with_reducible exact ih1 _ _ _ _ _)
      | (with_reducible exact ih2 _ _ _ _ _ _)
      | (with_reducible exact columbariumlaw7_few.mono _ _)
      | (with_reducible exact columbariumlaw7_known.mono _)
      | (with_reducible exact columbariumlaw7_short.mono _ _)
      | (with_reducible exact dict_Build.mono _ _)
      | (with_reducible exact dict_Find.mono _ _ _)
      | (with_reducible exact dict_Fits.mono _ _)
      | (with_reducible exact dict_From.mono _ _ _)
      | (with_reducible exact LeO.refl _)
      | (with_reducible exact LeO.none _)
      | (with_reducible refine LeO.ite ?_ ?_)
      | (with_reducible refine LeO.bind ?_ (fun _ => ?_))
      | exact ih0 _ _ _ _
      | exact ih1 _ _ _ _ _
      | exact ih2 _ _ _ _ _ _
      | exact columbariumlaw7_few.mono _ _
      | exact columbariumlaw7_known.mono _
      | exact columbariumlaw7_short.mono _ _
      | exact dict_Build.mono _ _
      | exact dict_Find.mono _ _ _
      | exact dict_Fits.mono _ _
      | exact dict_From.mono _ _ _
      | exact LeO.none _
      | refine LeO.ite ?_ ?_
      | refine LeO.bind ?_ (fun _ => ?_)
theorem columbariumlaw7_DictFinds.mono : ∀ a0 a1 k, LeO (columbariumlaw7_DictFinds.f k a0 a1) (columbariumlaw7_DictFinds.f (k + 1) a0 a1) := by
  intro a0 a1 k
  obtain ⟨ih0, ih1, ih2⟩ := columbariumlaw7_DictFinds.mono_l k
  unfold columbariumlaw7_DictFinds.f
  repeat' first
      | (with_reducible exact ih0 _ _ _ _)
      | (with_reducible exact ih1 _ _ _ _ _)
      | (with_reducible exact ih2 _ _ _ _ _ _)
      | (with_reducible exact columbariumlaw7_few.mono _ _)
      | (with_reducible exact columbariumlaw7_known.mono _)
      | (with_reducible exact columbariumlaw7_short.mono _ _)
      | (with_reducible exact dict_Build.mono _ _)
      | (with_reducible exact dict_Find.mono _ _ _)
      | (with_reducible exact dict_Fits.mono _ _)
      | (with_reducible exact dict_From.mono _ _ _)
      | (with_reducible exact LeO.refl _)
      | (with_reducible exact LeO.none _)
      | (with_reducible refine LeO.ite ?_ ?_)
      | (with_reducible refine LeO.bind ?_ (fun _ => ?_))
      | exact ih0 _ _ _ _
      | exact ih1 _ _ _ _ _
      | exact ih2 _ _ _ _ _ _
      | exact columbariumlaw7_few.mono _ _
      | exact columbariumlaw7_known.mono _
      | exact columbariumlaw7_short.mono _ _
      | exact dict_Build.mono _ _
      | exact dict_Find.mono _ _ _
      | exact dict_Fits.mono _ _
      | exact dict_From.mono _ _ _
      | exact LeO.none _
      | refine LeO.ite ?_ ?_
      | refine LeO.bind ?_ (fun _ => ?_)
set_option maxHeartbeats 8000000 in
set_option maxRecDepth 100000 in
theorem columbariumlaw7_DictFinds.calls (k : Nat) (A0 : Option Addr) (c0 : Nat) (l0 : List ByteArray) (a1 : ByteArray) (r : Bool) (w : World) (hr0 : Kd.C Kd.string w A0 l0.length l0) (hc0 : l0.length ≤ c0) (hrt_ : Aside0 (r = true)) (h : columbariumlaw7_DictFinds.f k l0 a1 = some r) :
    Calls Try.prog 5 #[.slice A0 l0.length c0, .string a1] w fun e w' => e = .returned (.bool r) ∧ Below w.heap.size w w' := by
  have HR0 := Aside0.mk hr0
  have HC0 := Aside0.mk hc0
  clear hr0 hc0
  have HB := Aside0.mk (Below.refl w.heap.size w)
  have H : ((columbariumlaw7_few.f k l0).bind fun t193 => ((dict_Build.f k t193).bind fun bt196 => (columbariumlaw7_DictFinds.l0 k a1 bt196.1 false 0))) = some r := h
  clear h
  replace H := Option.bind_eq_some_iff.mp H
  obtain ⟨t193, A30, H⟩ := H
  replace H : ((dict_Build.f k t193).bind fun bt196 => (columbariumlaw7_DictFinds.l0 k a1 bt196.1 false 0)) = some r := H
  have A3 := Aside0.mk A30
  clear A30
  replace H := Option.bind_eq_some_iff.mp H
  obtain ⟨⟨t196, t199⟩, A40, H⟩ := H
  replace H : (columbariumlaw7_DictFinds.l0 k a1 t196 false 0) = some r := H
  have A4 := Aside0.mk A40
  clear A40
  have H' := Aside0.mk H
  clear H
  go_enter Try.func5, Try.ntmps5
  go_wp2_with (first | ((with_reducible refine gate_callee (f := 9) rfl ?_); refine goesL_ (some 17) rfl rfl Try.func9 (by kernel_rfl) rfl #[.slice A0 l0.length c0] rfl (by (try simp only [List.map_toArray, List.map_cons, List.map_nil]); first | done | rfl | (simp only [List.length_drop, List.length_take]; rfl)) ?_; (with_reducible refine (columbariumlaw7_few.calls k _ _ l0 t193 _ ?side1 ?side2 A3.out).mono ?_); (case side1 => repeat (first | exact HR0.out | (with_reducible refine Kd.C_alloc ?_ _) | (with_reducible refine Kd.C_drewN ?_ _) | (with_reducible refine Kd.C_drew ?_))); (case side2 => exact HC0.out); rintro e w5 ⟨v194, rfl, ho0, hb⟩; refine ⟨_, rfl, ?_⟩; have n0_ := Aside0.mk (Kd.R_lower ho0 (below_size (by repeat (first | (with_reducible first | exact HB.out | apply below_alloc | apply pw_below_drewN | apply below_drew1) | exact HB.out)))); have n1_ := Aside0.mk (below_step (by repeat (first | (with_reducible first | exact HB.out | apply below_alloc | apply pw_below_drewN | apply below_drew1) | exact HB.out)) hb); clear HB; have HO195 := n0_; have HB := n1_; clear n0_ n1_; (try clear hb); (try clear hb2); (try clear hk); (try clear hi); (try clear ho0); obtain ⟨Ao6, co6, eo6⟩ := Kd.R_slice HO195.out; subst eo6) | ((with_reducible refine gate_callee (f := 8) rfl ?_); refine goesL_ (some 18) rfl rfl Try.func8 (by kernel_rfl) rfl #[.slice Ao6 t193.length co6] rfl (by (try simp only [List.map_toArray, List.map_cons, List.map_nil]); first | done | rfl | (simp only [List.length_drop, List.length_take]; rfl)) ?_; (with_reducible refine (dict_Build.calls k _ _ t193 t196 t199 _ ?side1 ?side2 A4.out).mono ?_); (case side1 => repeat (first | exact (Kd.R_reads' HO195.out).2.2 | (with_reducible refine Kd.C_alloc ?_ _) | (with_reducible refine Kd.C_drewN ?_ _) | (with_reducible refine Kd.C_drew ?_))); (case side2 => exact (Kd.R_reads' HO195.out).2.1); rintro e w7 ⟨v197, v200, rfl, ho0, ho1, hb⟩; refine ⟨_, rfl, ?_⟩; have n0_ := Aside0.mk (Kd.R_below (by (with_reducible repeat (first | apply Kd.R_alloc | apply Kd.R_drewN | apply Kd.R_drew)); exact HO195.out) hb); have n1_ := Aside0.mk (Kd.V_lower (Kd.V_mono (ok' := fun k_ => some k_ ≠ (v200 : Value).ownBlock ∧ some k_ ≠ (.slice Ao6 t193.length co6 : Value).ownBlock) ho0 (fun k_ hk_ => ⟨hk_.2, (Kd.fresh' (Kd.R_lt (by (with_reducible repeat (first | apply Kd.R_alloc | apply Kd.R_drewN | apply Kd.R_drew)); exact HO195.out)) k_ hk_.1)⟩)) (below_size (by repeat (first | (with_reducible first | exact HB.out | apply below_alloc | apply pw_below_drewN | apply below_drew1) | exact HB.out)))); have n2_ := Aside0.mk (Kd.R_lower (Kd.R_mono (ok' := fun k_ => True) ho1 (fun _ hk_ => trivial)) (below_size (by repeat (first | (with_reducible first | exact HB.out | apply below_alloc | apply pw_below_drewN | apply below_drew1) | exact HB.out)))); have n3_ := Aside0.mk (below_step (by repeat (first | (with_reducible first | exact HB.out | apply below_alloc | apply pw_below_drewN | apply below_drew1) | exact HB.out)) hb); clear HO195; clear HB; have HO195 := n0_; have HO198 := n1_; have HO201 := n2_; have HB := n3_; clear n0_ n1_ n2_ n3_; (try clear hb); (try clear hb2); (try clear hk); (try clear hi); (try clear ho0); (try clear ho1)))
  go_loopg [7, 8] k (fun kq v7 v8 w' => ∃ (x7_1 : Bool) (x8_1 : Int), v7 = .bool x7_1 ∧ v8 = .int .i64 x8_1 ∧ Aside0 (columbariumlaw7_DictFinds.l0 kq a1 t196 x7_1 x8_1 = some r) ∧ Aside0 (kq ≤ k) ∧ Aside0 (Kd.V Kd.string 9 w' w.heap.size (fun _ => True) v197 t196) ∧ Aside0 (Below w.heap.size w w'))
  case atStart => exact ⟨(false), (0), (by first | rfl | (simp; done) | (simp [*]; done)), (by first | rfl | (simp; done) | (simp [*]; done)), H', ⟨Nat.le_refl _⟩, ⟨by (with_reducible repeat (first | apply Kd.V_alloc | apply Kd.V_drewN | apply Kd.V_drew)); exact Kd.V_mono HO198.out (fun _ hk => trivial)⟩, ⟨by repeat (first | (with_reducible first | exact HB.out | apply below_alloc | apply pw_below_drewN | apply below_drew1) | exact HB.out)⟩⟩
  case round =>
    clear H'
    try clear p2
    try clear c5
    obtain ⟨x7_1, x8_1, rfl, rfl, HA, HK1, HO_5, HB⟩ := hrel
    cases gk with
    | zero => exact absurd HA.out (by simp [columbariumlaw7_DictFinds.l0])
    | succ k1 =>
      have H := HA.out
      clear HA
      simp only [columbariumlaw7_DictFinds.l0] at H
      by_cases c8 : x8_1 < (t196.length : Int)
      · rw [if_pos c8] at H
        have c8b0 : decide (x8_1 < (t196.length : Int)) = true := decide_eq_true c8
        clear c8
        by_cases c9 : x7_1 = true
        · subst c9
          have H1 : (columbariumlaw7_DictFinds.l0 k1 a1 t196 true (wrap64 (x8_1 + 1))) = some r := by rw [if_pos rfl] at H; exact H
          clear H
          have H := H1
          clear H1
          have H' := Aside0.mk H
          clear H
          obtain ⟨Ao10, co10, eo10⟩ := Kd.V_slice HO_5.out
          subst eo10
          go_wp2
          go_roundg k1
          case measure => have := HK1.out; omega
          case rel => exact ⟨(true), (wrap64 (x8_1 + 1)), (by first | rfl | (simp; done) | (simp [*]; done)), (by first | rfl | (simp; done) | (simp [*]; done)), H', ⟨by have := HK1.out; omega⟩, ⟨by (with_reducible repeat (first | apply Kd.V_alloc | apply Kd.V_drewN | apply Kd.V_drew)); exact HO_5.out⟩, ⟨by repeat (first | (with_reducible first | exact HB.out | apply below_alloc | apply pw_below_drewN | apply below_drew1) | exact HB.out)⟩⟩
        · replace c9 := Bool.eq_false_iff.mpr c9
          subst c9
          have H1 : (if 0 ≤ x8_1 then (columbariumlaw7_DictFinds.l0 k1 a1 t196 ((rdOf ByteArray.empty t196 x8_1).toList == a1.toList) (wrap64 (x8_1 + 1))) else (none)) = some r := by rw [if_neg (show ¬ (false = true) by decide)] at H; exact H
          clear H
          have H := H1
          clear H1
          by_cases c11 : 0 ≤ x8_1
          · rw [if_pos c11] at H
            have c11b0 : decide (0 ≤ x8_1) = true := decide_eq_true c11
            clear c11
            have H' := Aside0.mk H
            clear H
            obtain ⟨Ao12, co12, eo12⟩ := Kd.V_slice HO_5.out
            subst eo12
            have p202 : 0 ≤ (x8_1 : Int) := of_decide_eq_true (by first | (with_reducible assumption) | assumption)
            have q202 : x8_1 < (t196.length : Int) := of_decide_eq_true (by first | (with_reducible assumption) | assumption)
            obtain ⟨ad202, e202, hx202_0⟩ := Kd.at_string (Kd.V_reads' HO_5.out).2.2 x8_1 p202 q202
            cases e202
            replace p202 := eq_true p202
            replace q202 := eq_true q202
            go_wp2
            go_roundg k1
            case measure => have := HK1.out; omega
            case rel => exact ⟨(((rdOf ByteArray.empty t196 x8_1).toList == a1.toList)), (wrap64 (x8_1 + 1)), (by first | rfl | (simp; done) | (simp [*]; done)), (by first | rfl | (simp; done) | (simp [*]; done)), H', ⟨by have := HK1.out; omega⟩, ⟨by (with_reducible repeat (first | apply Kd.V_alloc | apply Kd.V_drewN | apply Kd.V_drew)); exact HO_5.out⟩, ⟨by repeat (first | (with_reducible first | exact HB.out | apply below_alloc | apply pw_below_drewN | apply below_drew1) | exact HB.out)⟩⟩
          · rw [if_neg c11] at H
            exact absurd H (by simp)
      · rw [if_neg c8] at H
        have c8b0 : decide (x8_1 < (t196.length : Int)) = false := decide_eq_false c8
        clear c8
        replace H := Option.bind_eq_some_iff.mp H
        obtain ⟨⟨t203, t204⟩, A130, H⟩ := H
        replace H : (if (t204 != x7_1) = true then (columbariumlaw7_DictFinds.j1 k1 a1 t196 t203 t204 true) else (if t204 = true then (if 0 ≤ t203 then (if t203 < (t196.length : Int) then (if (rdOf ByteArray.empty t196 t203).toList = a1.toList then (columbariumlaw7_DictFinds.j1 k1 a1 t196 t203 t204 false) else (columbariumlaw7_DictFinds.j1 k1 a1 t196 t203 t204 true)) else (none)) else (none)) else (columbariumlaw7_DictFinds.j1 k1 a1 t196 t203 t204 (t203 != 0)))) = some r := H
        have A13 := Aside0.mk A130
        clear A130
        have HC14 := Aside0.mk H
        clear H
        obtain ⟨Ao15, co15, eo15⟩ := Kd.V_slice HO_5.out
        subst eo15
        go_upto_region 8 with (first | ((with_reducible refine gate_callee (f := 14) rfl ?_); refine goesL_ (some 39) rfl rfl Try.func14 (by kernel_rfl) rfl #[.slice Ao15 t196.length co15, .string a1] rfl (by (try simp only [List.map_toArray, List.map_cons, List.map_nil]); first | done | rfl | (simp only [List.length_drop, List.length_take]; rfl)) ?_; (with_reducible refine (dict_Find.calls k1 _ _ t196 a1 t203 t204 _ ?side1 ?side2 A13.out).mono ?_); (case side1 => repeat (first | exact (Kd.V_reads' HO_5.out).2.2 | (with_reducible refine Kd.C_alloc ?_ _) | (with_reducible refine Kd.C_drewN ?_ _) | (with_reducible refine Kd.C_drew ?_))); (case side2 => exact (Kd.V_reads' HO_5.out).2.1); rintro e w' ⟨rfl, ⟨nd, rfl⟩⟩; refine ⟨_, rfl, ?_⟩))
        (try simp only [Act.put, List.setIfInBounds_toArray, List.set_cons_zero, List.set_cons_succ])
        go_cut [63] (fun v63 wc => ∃ (kq : Nat) (x63_13 : Bool), v63 = .bool x63_13 ∧ Aside0 (columbariumlaw7_DictFinds.j1 kq a1 t196 t203 t204 x63_13 = some r) ∧ Aside0 (kq ≤ k1) ∧ Aside0 (Kd.V Kd.string 9 wc w.heap.size (fun _ => True) (.slice Ao15 t196.length co15) t196) ∧ Aside0 (Below w.heap.size w wc))
        case first =>
          have H := HC14.out
          clear HC14
          by_cases c16 : (t204 != x7_1) = true
          · rw [if_pos c16] at H
            have c16b0 : (t204 != x7_1) = true := c16
            (try (have c16b1 : decide (t204 = x7_1) = false := by simpa using c16))
            (try (have c16b2 : (t204 == x7_1) = false := by simpa using c16))
            (try (have c16b3 : ¬ (t204 = x7_1) := by simpa using c16))
            clear c16
            (first | rw [c16b0] | rw [c16b1] | (simp only [i64_w, i32_w]; rw [c16b0]) | skip)
            have H' := Aside0.mk H
            clear H
            go_wp2
            go_meet
            case rel => exact ⟨_, (true), (by first | rfl | (simp; done) | (simp [*]; done)), H', ⟨by have := HK1.out; first | omega | exact Nat.le_refl _⟩, ⟨by (with_reducible repeat (first | apply Kd.V_alloc | apply Kd.V_drewN | apply Kd.V_drew)); exact HO_5.out⟩, ⟨by repeat (first | (with_reducible first | exact HB.out | apply below_alloc | apply pw_below_drewN | apply below_drew1) | exact HB.out)⟩⟩
          · rw [if_neg c16] at H
            have c16b0 : (t204 != x7_1) = false := by simpa using c16
            (try (have c16b1 : decide (t204 = x7_1) = true := by simpa using c16))
            (try (have c16b2 : (t204 == x7_1) = true := by simpa using c16))
            clear c16
            (first | rw [c16b0] | rw [c16b1] | (simp only [i64_w, i32_w]; rw [c16b0]) | skip)
            by_cases c17 : t204 = true
            · subst c17
              have H1 : (if 0 ≤ t203 then (if t203 < (t196.length : Int) then (if (rdOf ByteArray.empty t196 t203).toList = a1.toList then (columbariumlaw7_DictFinds.j1 k1 a1 t196 t203 true false) else (columbariumlaw7_DictFinds.j1 k1 a1 t196 t203 true true)) else (none)) else (none)) = some r := by rw [if_pos rfl] at H; exact H
              clear H
              have H := H1
              clear H1
              by_cases c18 : 0 ≤ t203
              · rw [if_pos c18] at H
                have c18b0 : decide (0 ≤ t203) = true := decide_eq_true c18
                clear c18
                by_cases c19 : t203 < (t196.length : Int)
                · rw [if_pos c19] at H
                  have c19b0 : decide (t203 < (t196.length : Int)) = true := decide_eq_true c19
                  clear c19
                  by_cases c20 : (rdOf ByteArray.empty t196 t203).toList = a1.toList
                  · rw [if_pos c20] at H
                    have c20b0 : ((rdOf ByteArray.empty t196 t203).toList == a1.toList) = true := beq_iff_eq.mpr c20
                    have c20b1 : ((rdOf ByteArray.empty t196 t203).toList != a1.toList) = false := bne_eq_false_iff_eq.mpr c20
                    clear c20
                    have H' := Aside0.mk H
                    clear H
                    have p205 : 0 ≤ (t203 : Int) := of_decide_eq_true (by first | (with_reducible assumption) | assumption)
                    have q205 : t203 < (t196.length : Int) := of_decide_eq_true (by first | (with_reducible assumption) | assumption)
                    obtain ⟨ad205, e205, hx205_0⟩ := Kd.at_string (Kd.V_reads' HO_5.out).2.2 t203 p205 q205
                    cases e205
                    replace p205 := eq_true p205
                    replace q205 := eq_true q205
                    go_wp2
                    go_meet
                    case rel => exact ⟨_, (false), (by first | rfl | (simp; done) | (simp [*]; done)), H', ⟨by have := HK1.out; first | omega | exact Nat.le_refl _⟩, ⟨by (with_reducible repeat (first | apply Kd.V_alloc | apply Kd.V_drewN | apply Kd.V_drew)); exact HO_5.out⟩, ⟨by repeat (first | (with_reducible first | exact HB.out | apply below_alloc | apply pw_below_drewN | apply below_drew1) | exact HB.out)⟩⟩
                  · rw [if_neg c20] at H
                    have c20b0 : ((rdOf ByteArray.empty t196 t203).toList == a1.toList) = false := beq_eq_false_iff_ne.mpr c20
                    have c20b1 : ((rdOf ByteArray.empty t196 t203).toList != a1.toList) = true := bne_iff_ne.mpr c20
                    have H' := Aside0.mk H
                    clear H
                    have p205 : 0 ≤ (t203 : Int) := of_decide_eq_true (by first | (with_reducible assumption) | assumption)
                    have q205 : t203 < (t196.length : Int) := of_decide_eq_true (by first | (with_reducible assumption) | assumption)
                    obtain ⟨ad205, e205, hx205_0⟩ := Kd.at_string (Kd.V_reads' HO_5.out).2.2 t203 p205 q205
                    cases e205
                    replace p205 := eq_true p205
                    replace q205 := eq_true q205
                    go_wp2
                    go_meet
                    case rel => exact ⟨_, (true), (by first | rfl | (simp; done) | (simp [*]; done)), H', ⟨by have := HK1.out; first | omega | exact Nat.le_refl _⟩, ⟨by (with_reducible repeat (first | apply Kd.V_alloc | apply Kd.V_drewN | apply Kd.V_drew)); exact HO_5.out⟩, ⟨by repeat (first | (with_reducible first | exact HB.out | apply below_alloc | apply pw_below_drewN | apply below_drew1) | exact HB.out)⟩⟩
                · rw [if_neg c19] at H
                  exact absurd H (by simp)
              · rw [if_neg c18] at H
                exact absurd H (by simp)
            · replace c17 := Bool.eq_false_iff.mpr c17
              subst c17
              have H1 : (columbariumlaw7_DictFinds.j1 k1 a1 t196 t203 false (t203 != 0)) = some r := by rw [if_neg (show ¬ (false = true) by decide)] at H; exact H
              clear H
              have H := H1
              clear H1
              have H' := Aside0.mk H
              clear H
              go_wp2
              go_meet
              case rel => exact ⟨_, ((t203 != 0)), (by first | rfl | (simp; done) | (simp [*]; done)), H', ⟨by have := HK1.out; first | omega | exact Nat.le_refl _⟩, ⟨by (with_reducible repeat (first | apply Kd.V_alloc | apply Kd.V_drewN | apply Kd.V_drew)); exact HO_5.out⟩, ⟨by repeat (first | (with_reducible first | exact HB.out | apply below_alloc | apply pw_below_drewN | apply below_drew1) | exact HB.out)⟩⟩
        case rest =>
          clear HC14
          try clear c1
          try clear c2
          try clear p2
          try clear q2
          try clear hx2
          try clear c5
          try clear p6
          try clear c8
          try clear c8b0
          try clear c9
          try clear c11
          try clear c11b0
          try clear c14
          try clear c16
          try clear c16b0
          try clear c16b1
          try clear c16b2
          try clear c17
          try clear c18
          try clear c18b0
          try clear c19
          try clear c19b0
          try clear c20
          try clear c20b0
          try clear c20b1
          try clear p20
          try clear q20
          try clear hx20
          try clear hx202_0
          try clear hx205_0
          try clear p2
          try clear p202
          try clear p205
          try clear q202
          try clear q205
          obtain ⟨kq, x63_13, rfl, HA, HJ13, HO_5, HB⟩ := hcut
          cases kq with
          | zero => exact absurd HA.out (by simp [columbariumlaw7_DictFinds.j1])
          | succ kj13 =>
            have H := HA.out
            clear HA
            simp only [columbariumlaw7_DictFinds.j1] at H
            by_cases c21 : x63_13 = true
            · subst c21
              have H1 : (some false) = some r := by rw [if_pos rfl] at H; exact H
              clear H
              have H := H1
              clear H1
              exact absurd ((Option.some.inj H).trans hrt_.out) (by decide)
            · replace c21 := Bool.eq_false_iff.mpr c21
              subst c21
              have H1 : ((dict_From.f kj13 t196 (⟨#[]⟩ : ByteArray)).bind fun bt206 => ((dict_From.f kj13 t196 a1).bind fun bt208 => (if t204 = true then (if bt208.1 = t203 then (columbariumlaw7_DictFinds.j2 kj13 t196 bt206.1 bt206.2 bt208.1 bt208.2 (decide (bt208.2 ≤ t203))) else (columbariumlaw7_DictFinds.j2 kj13 t196 bt206.1 bt206.2 bt208.1 bt208.2 true)) else (columbariumlaw7_DictFinds.j2 kj13 t196 bt206.1 bt206.2 bt208.1 bt208.2 false)))) = some r := by rw [if_neg (show ¬ (false = true) by decide)] at H; exact H
              clear H
              have H := H1
              clear H1
              replace H := Option.bind_eq_some_iff.mp H
              obtain ⟨⟨t206, t207⟩, A220, H⟩ := H
              replace H : ((dict_From.f kj13 t196 a1).bind fun bt208 => (if t204 = true then (if bt208.1 = t203 then (columbariumlaw7_DictFinds.j2 kj13 t196 t206 t207 bt208.1 bt208.2 (decide (bt208.2 ≤ t203))) else (columbariumlaw7_DictFinds.j2 kj13 t196 t206 t207 bt208.1 bt208.2 true)) else (columbariumlaw7_DictFinds.j2 kj13 t196 t206 t207 bt208.1 bt208.2 false))) = some r := H
              have A22 := Aside0.mk A220
              clear A220
              replace H := Option.bind_eq_some_iff.mp H
              obtain ⟨⟨t208, t209⟩, A230, H⟩ := H
              replace H : (if t204 = true then (if t208 = t203 then (columbariumlaw7_DictFinds.j2 kj13 t196 t206 t207 t208 t209 (decide (t209 ≤ t203))) else (columbariumlaw7_DictFinds.j2 kj13 t196 t206 t207 t208 t209 true)) else (columbariumlaw7_DictFinds.j2 kj13 t196 t206 t207 t208 t209 false)) = some r := H
              have A23 := Aside0.mk A230
              clear A230
              have HC24 := Aside0.mk H
              clear H
              go_upto_region 12 with (first | ((with_reducible refine gate_callee (f := 13) rfl ?_); refine goesL_ (some 66) rfl rfl Try.func13 (by kernel_rfl) rfl #[.slice Ao15 t196.length co15, .string (⟨#[]⟩ : ByteArray)] rfl (by (try simp only [List.map_toArray, List.map_cons, List.map_nil]); first | done | rfl | (simp only [List.length_drop, List.length_take]; rfl)) ?_; (with_reducible refine (dict_From.calls kj13 _ _ t196 (⟨#[]⟩ : ByteArray) t206 t207 _ ?side1 ?side2 A22.out).mono ?_); (case side1 => repeat (first | exact (Kd.V_reads' HO_5.out).2.2 | (with_reducible refine Kd.C_alloc ?_ _) | (with_reducible refine Kd.C_drewN ?_ _) | (with_reducible refine Kd.C_drew ?_))); (case side2 => exact (Kd.V_reads' HO_5.out).2.1); rintro e w' ⟨rfl, ⟨nd, rfl⟩⟩; refine ⟨_, rfl, ?_⟩) | ((with_reducible refine gate_callee (f := 13) rfl ?_); refine goesL_ (some 72) rfl rfl Try.func13 (by kernel_rfl) rfl #[.slice Ao15 t196.length co15, .string a1] rfl (by (try simp only [List.map_toArray, List.map_cons, List.map_nil]); first | done | rfl | (simp only [List.length_drop, List.length_take]; rfl)) ?_; (with_reducible refine (dict_From.calls kj13 _ _ t196 a1 t208 t209 _ ?side1 ?side2 A23.out).mono ?_); (case side1 => repeat (first | exact (Kd.V_reads' HO_5.out).2.2 | (with_reducible refine Kd.C_alloc ?_ _) | (with_reducible refine Kd.C_drewN ?_ _) | (with_reducible refine Kd.C_drew ?_))); (case side2 => exact (Kd.V_reads' HO_5.out).2.1); rintro e w' ⟨rfl, ⟨nd, rfl⟩⟩; refine ⟨_, rfl, ?_⟩))
              (try simp only [Act.put, List.setIfInBounds_toArray, List.set_cons_zero, List.set_cons_succ])
              go_cut [85] (fun v85 wc => ∃ (kq : Nat) (x85_23 : Bool), v85 = .bool x85_23 ∧ Aside0 (columbariumlaw7_DictFinds.j2 kq t196 t206 t207 t208 t209 x85_23 = some r) ∧ Aside0 (kq ≤ kj13) ∧ Aside0 (Kd.V Kd.string 9 wc w.heap.size (fun _ => True) (.slice Ao15 t196.length co15) t196) ∧ Aside0 (Below w.heap.size w wc))
              case first =>
                have H := HC24.out
                clear HC24
                by_cases c25 : t204 = true
                · subst c25
                  have H1 : (if t208 = t203 then (columbariumlaw7_DictFinds.j2 kj13 t196 t206 t207 t208 t209 (decide (t209 ≤ t203))) else (columbariumlaw7_DictFinds.j2 kj13 t196 t206 t207 t208 t209 true)) = some r := by rw [if_pos rfl] at H; exact H
                  clear H
                  have H := H1
                  clear H1
                  by_cases c26 : t208 = t203
                  · rw [if_pos c26] at H
                    have c26b0 : (t208 == t203) = true := beq_iff_eq.mpr c26
                    have c26b1 : (t208 != t203) = false := bne_eq_false_iff_eq.mpr c26
                    clear c26
                    (first | rw [c26b0] | rw [c26b1] | (simp only [i64_w, i32_w]; rw [c26b0]) | skip)
                    have H' := Aside0.mk H
                    clear H
                    go_wp2
                    go_meet
                    case rel => exact ⟨_, (decide (t209 ≤ t203)), (by first | rfl | (simp; done) | (simp [*]; done)), H', ⟨by have := HK1.out; have := HJ13.out; first | omega | exact Nat.le_refl _⟩, ⟨by (with_reducible repeat (first | apply Kd.V_alloc | apply Kd.V_drewN | apply Kd.V_drew)); exact HO_5.out⟩, ⟨by repeat (first | (with_reducible first | exact HB.out | apply below_alloc | apply pw_below_drewN | apply below_drew1) | exact HB.out)⟩⟩
                  · rw [if_neg c26] at H
                    have c26b0 : (t208 == t203) = false := beq_eq_false_iff_ne.mpr c26
                    have c26b1 : (t208 != t203) = true := bne_iff_ne.mpr c26
                    (first | rw [c26b0] | rw [c26b1] | (simp only [i64_w, i32_w]; rw [c26b0]) | skip)
                    have H' := Aside0.mk H
                    clear H
                    go_wp2
                    go_meet
                    case rel => exact ⟨_, (true), (by first | rfl | (simp; done) | (simp [*]; done)), H', ⟨by have := HK1.out; have := HJ13.out; first | omega | exact Nat.le_refl _⟩, ⟨by (with_reducible repeat (first | apply Kd.V_alloc | apply Kd.V_drewN | apply Kd.V_drew)); exact HO_5.out⟩, ⟨by repeat (first | (with_reducible first | exact HB.out | apply below_alloc | apply pw_below_drewN | apply below_drew1) | exact HB.out)⟩⟩
                · replace c25 := Bool.eq_false_iff.mpr c25
                  subst c25
                  have H1 : (columbariumlaw7_DictFinds.j2 kj13 t196 t206 t207 t208 t209 false) = some r := by rw [if_neg (show ¬ (false = true) by decide)] at H; exact H
                  clear H
                  have H := H1
                  clear H1
                  have H' := Aside0.mk H
                  clear H
                  go_wp2
                  go_meet
                  case rel => exact ⟨_, (false), (by first | rfl | (simp; done) | (simp [*]; done)), H', ⟨by have := HK1.out; have := HJ13.out; first | omega | exact Nat.le_refl _⟩, ⟨by (with_reducible repeat (first | apply Kd.V_alloc | apply Kd.V_drewN | apply Kd.V_drew)); exact HO_5.out⟩, ⟨by repeat (first | (with_reducible first | exact HB.out | apply below_alloc | apply pw_below_drewN | apply below_drew1) | exact HB.out)⟩⟩
              case rest =>
                clear HC24
                try clear c1
                try clear c2
                try clear p2
                try clear q2
                try clear hx2
                try clear c5
                try clear p6
                try clear c8
                try clear c8b0
                try clear c9
                try clear c11
                try clear c11b0
                try clear c13
                try clear c14
                try clear c16
                try clear c16b0
                try clear c16b1
                try clear c16b2
                try clear c17
                try clear c18
                try clear c18b0
                try clear c19
                try clear c19b0
                try clear c20
                try clear c20b0
                try clear c20b1
                try clear p20
                try clear q20
                try clear hx20
                try clear c21
                try clear c25
                try clear c26
                try clear c26b0
                try clear c26b1
                try clear hx202_0
                try clear hx205_0
                try clear p2
                try clear p20
                try clear p202
                try clear p205
                try clear p6
                try clear q2
                try clear q20
                try clear q202
                try clear q205
                obtain ⟨kq, x85_23, rfl, HA, HJ23, HO_5, HB⟩ := hcut
                cases kq with
                | zero => exact absurd HA.out (by simp [columbariumlaw7_DictFinds.j2])
                | succ kj23 =>
                  have H := HA.out
                  clear HA
                  simp only [columbariumlaw7_DictFinds.j2] at H
                  by_cases c27 : x85_23 = true
                  · subst c27
                    have H1 : (some false) = some r := by rw [if_pos rfl] at H; exact H
                    clear H
                    have H := H1
                    clear H1
                    exact absurd ((Option.some.inj H).trans hrt_.out) (by decide)
                  · replace c27 := Bool.eq_false_iff.mpr c27
                    subst c27
                    have H1 : (if t206 = 0 then (if t207 = (t196.length : Int) then (if t208 ≤ t209 then ((dict_Fits.f kj23 t196).bind fun t210 => (if (t196.length : Int) ≤ 16 then ((columbariumlaw7_short.f kj23 t196).bind fun t211 => (if (t210 == t211) = true then ((columbariumlaw7_known.f kj23).bind fun t212 => (some t212)) else (some false))) else (if (t210 == false) = true then ((columbariumlaw7_known.f kj23).bind fun t213 => (some t213)) else (some false)))) else (some false)) else (some false)) else (some false)) = some r := by rw [if_neg (show ¬ (false = true) by decide)] at H; exact H
                    clear H
                    have H := H1
                    clear H1
                    by_cases c28 : t206 = 0
                    · rw [if_pos c28] at H
                      have c28b0 : (t206 == 0) = true := beq_iff_eq.mpr c28
                      have c28b1 : (t206 != 0) = false := bne_eq_false_iff_eq.mpr c28
                      clear c28
                      by_cases c29 : t207 = (t196.length : Int)
                      · rw [if_pos c29] at H
                        have c29b0 : (t207 == (t196.length : Int)) = true := beq_iff_eq.mpr c29
                        have c29b1 : (t207 != (t196.length : Int)) = false := bne_eq_false_iff_eq.mpr c29
                        clear c29
                        by_cases c30 : t208 ≤ t209
                        · rw [if_pos c30] at H
                          have c30b0 : decide (t208 ≤ t209) = true := decide_eq_true c30
                          clear c30
                          replace H := Option.bind_eq_some_iff.mp H
                          obtain ⟨t210, A310, H⟩ := H
                          replace H : (if (t196.length : Int) ≤ 16 then ((columbariumlaw7_short.f kj23 t196).bind fun t211 => (if (t210 == t211) = true then ((columbariumlaw7_known.f kj23).bind fun t212 => (some t212)) else (some false))) else (if (t210 == false) = true then ((columbariumlaw7_known.f kj23).bind fun t213 => (some t213)) else (some false))) = some r := H
                          have A31 := Aside0.mk A310
                          clear A310
                          by_cases c32 : (t196.length : Int) ≤ 16
                          · rw [if_pos c32] at H
                            have c32b0 : decide ((t196.length : Int) ≤ 16) = true := decide_eq_true c32
                            have c32b1 : decide (t196.length ≤ 16) = true := decide_eq_true (by omega)
                            clear c32
                            replace H := Option.bind_eq_some_iff.mp H
                            obtain ⟨t211, A330, H⟩ := H
                            replace H : (if (t210 == t211) = true then ((columbariumlaw7_known.f kj23).bind fun t212 => (some t212)) else (some false)) = some r := H
                            have A33 := Aside0.mk A330
                            clear A330
                            by_cases c34 : (t210 == t211) = true
                            · rw [if_pos c34] at H
                              have c34b0 : (t210 == t211) = true := c34
                              (try (have c34b1 : decide (t210 = t211) = true := by simpa using c34))
                              (try (have c34b2 : (t210 == t211) = true := by simpa using c34))
                              clear c34
                              replace H := Option.bind_eq_some_iff.mp H
                              obtain ⟨t212, A350, H⟩ := H
                              replace H : (some t212) = some r := H
                              have A35 := Aside0.mk A350
                              clear A350
                              obtain rfl := Option.some.inj H
                              go_wp2_with (first | (go_at_call 15; (with_reducible refine (dict_Fits.calls kj23 _ _ t196 t210 _ ?side1 ?side2 A31.out).mono ?_); (case side1 => repeat (first | exact (Kd.V_reads' HO_5.out).2.2 | (with_reducible refine Kd.C_alloc ?_ _) | (with_reducible refine Kd.C_drewN ?_ _) | (with_reducible refine Kd.C_drew ?_))); (case side2 => exact (Kd.V_reads' HO_5.out).2.1); rintro e w' ⟨rfl, ⟨nd, rfl⟩⟩) | (go_at_call 16; (with_reducible refine (columbariumlaw7_short.calls kj23 _ _ t196 t211 _ ?side1 ?side2 A33.out).mono ?_); (case side1 => repeat (first | exact (Kd.V_reads' HO_5.out).2.2 | (with_reducible refine Kd.C_alloc ?_ _) | (with_reducible refine Kd.C_drewN ?_ _) | (with_reducible refine Kd.C_drew ?_))); (case side2 => exact (Kd.V_reads' HO_5.out).2.1); rintro e w' ⟨rfl, ⟨nd, rfl⟩⟩) | (go_at_call 12; (with_reducible refine (columbariumlaw7_known.calls kj23  t212 _ A35.out).mono ?_); rintro e w36 ⟨rfl, hb⟩; have n0_ := Aside0.mk (Kd.V_below (by (with_reducible repeat (first | apply Kd.V_alloc | apply Kd.V_drewN | apply Kd.V_drew)); exact HO_5.out) hb); have n1_ := Aside0.mk (below_step (by repeat (first | (with_reducible first | exact HB.out | apply below_alloc | apply pw_below_drewN | apply below_drew1) | exact HB.out)) hb); clear HO_5; clear HB; have HO_5 := n0_; have HB := n1_; clear n0_ n1_; (try clear hb); (try clear hb2); (try clear hk); (try clear hi)))
                              go_ret
                              exact ⟨by first | rfl | (simp [errW_none, errW_some] <;> rfl) | (simp [*, errW_none, errW_some] <;> rfl), by repeat (first | (with_reducible first | exact HB.out | apply below_alloc | apply pw_below_drewN | apply below_drew1) | exact HB.out)⟩
                            · rw [if_neg c34] at H
                              have c34b0 : (t210 == t211) = false := by simpa using c34
                              (try (have c34b1 : decide (t210 = t211) = false := by simpa using c34))
                              (try (have c34b2 : (t210 == t211) = false := by simpa using c34))
                              (try (have c34b3 : ¬ (t210 = t211) := by simpa using c34))
                              clear c34
                              exact absurd ((Option.some.inj H).trans hrt_.out) (by decide)
                          · rw [if_neg c32] at H
                            have c32b0 : decide ((t196.length : Int) ≤ 16) = false := decide_eq_false c32
                            have c32b1 : decide (t196.length ≤ 16) = false := decide_eq_false (by omega)
                            clear c32
                            by_cases c37 : (t210 == false) = true
                            · rw [if_pos c37] at H
                              have c37b0 : (t210 == false) = true := c37
                              (try (have c37b1 : decide (t210 = false) = true := by simpa using c37))
                              (try (have c37b2 : (t210 == false) = true := by simpa using c37))
                              clear c37
                              replace H := Option.bind_eq_some_iff.mp H
                              obtain ⟨t213, A380, H⟩ := H
                              replace H : (some t213) = some r := H
                              have A38 := Aside0.mk A380
                              clear A380
                              obtain rfl := Option.some.inj H
                              go_wp2_with (first | (go_at_call 15; (with_reducible refine (dict_Fits.calls kj23 _ _ t196 t210 _ ?side1 ?side2 A31.out).mono ?_); (case side1 => repeat (first | exact (Kd.V_reads' HO_5.out).2.2 | (with_reducible refine Kd.C_alloc ?_ _) | (with_reducible refine Kd.C_drewN ?_ _) | (with_reducible refine Kd.C_drew ?_))); (case side2 => exact (Kd.V_reads' HO_5.out).2.1); rintro e w' ⟨rfl, ⟨nd, rfl⟩⟩) | (go_at_call 12; (with_reducible refine (columbariumlaw7_known.calls kj23  t213 _ A38.out).mono ?_); rintro e w39 ⟨rfl, hb⟩; have n0_ := Aside0.mk (Kd.V_below (by (with_reducible repeat (first | apply Kd.V_alloc | apply Kd.V_drewN | apply Kd.V_drew)); exact HO_5.out) hb); have n1_ := Aside0.mk (below_step (by repeat (first | (with_reducible first | exact HB.out | apply below_alloc | apply pw_below_drewN | apply below_drew1) | exact HB.out)) hb); clear HO_5; clear HB; have HO_5 := n0_; have HB := n1_; clear n0_ n1_; (try clear hb); (try clear hb2); (try clear hk); (try clear hi)))
                              go_ret
                              exact ⟨by first | rfl | (simp [errW_none, errW_some] <;> rfl) | (simp [*, errW_none, errW_some] <;> rfl), by repeat (first | (with_reducible first | exact HB.out | apply below_alloc | apply pw_below_drewN | apply below_drew1) | exact HB.out)⟩
                            · rw [if_neg c37] at H
                              have c37b0 : (t210 == false) = false := by simpa using c37
                              (try (have c37b1 : decide (t210 = false) = false := by simpa using c37))
                              (try (have c37b2 : (t210 == false) = false := by simpa using c37))
                              (try (have c37b3 : ¬ (t210 = false) := by simpa using c37))
                              clear c37
                              exact absurd ((Option.some.inj H).trans hrt_.out) (by decide)
                        · rw [if_neg c30] at H
                          have c30b0 : decide (t208 ≤ t209) = false := decide_eq_false c30
                          clear c30
                          exact absurd ((Option.some.inj H).trans hrt_.out) (by decide)
                      · rw [if_neg c29] at H
                        have c29b0 : (t207 == (t196.length : Int)) = false := beq_eq_false_iff_ne.mpr c29
                        have c29b1 : (t207 != (t196.length : Int)) = true := bne_iff_ne.mpr c29
                        exact absurd ((Option.some.inj H).trans hrt_.out) (by decide)
                    · rw [if_neg c28] at H
                      have c28b0 : (t206 == 0) = false := beq_eq_false_iff_ne.mpr c28
                      have c28b1 : (t206 != 0) = true := bne_iff_ne.mpr c28
                      exact absurd ((Option.some.inj H).trans hrt_.out) (by decide)

/-- THE ONE PURE STATEMENT of columbariumlaw7_DictFinds: yours. -/
def columbariumlaw7_DictFinds.Pure : Prop := ∀ (l0 : List ByteArray) (a1 : ByteArray), l0.length ≤ maxLen → (∀ x ∈ l0, x.size ≤ maxLen) → a1.size ≤ 140737488351232 → ∃ k, columbariumlaw7_DictFinds.f k l0 a1 = some true
theorem columbariumlaw7_DictFinds.walk (P : columbariumlaw7_DictFinds.Pure) (a0 : Option Addr) (cap0 : Nat) (l0 : List ByteArray) (a1 : ByteArray) (w : World) (hr0 : Kd.C Kd.string w a0 l0.length l0) (hc0 : l0.length ≤ cap0) (hm0 : l0.length ≤ maxLen) (hw0 : ∀ x ∈ l0, x.size ≤ maxLen) (w1 : a1.size ≤ 140737488351232) :
    Calls Try.prog 5 #[.slice a0 l0.length cap0, .string a1] w fun e w' => e = .returned (.bool true) ∧ Below w.heap.size w w' := by
  obtain ⟨k, h⟩ := P l0 a1 hm0 hw0 w1
  refine (columbariumlaw7_DictFinds.calls k _ _ l0 a1 true w hr0 hc0 ⟨rfl⟩ h).mono ?_
  rintro e w' ⟨rfl, hd⟩
  exact ⟨rfl, hd⟩

end Go.Proofs.Ytllboaghcfeepaa.QDictFinds
