-- Written by a program of this session (wip/myprint.py): the machine's side of a law
import Derived.Test.YtlalckngngppfaaQBitsPlacesx0
import Derived.Test.YtlalckngngppfaaQBitsPlacesx1
namespace Go.Proofs.Ytlalckngngppfaa.QBitsPlaces
open Go.RowKit Go.Proofs.YtlalckngngppfaaW.PrintWords Go.Proofs.YtlalckngngppfaaW.PrintLast Go.Proofs.YtlalckngngppfaaW.PrintMore
attribute [local go_sem] max2_int min2_int max_two min_two max_three min_three max_four min_four   -- for this text's walks alone
set_option linter.unusedVariables false
set_option linter.unusedSimpArgs false

/-! ### columbariumlaw3_BitsPlaces: function 4 -/
mutual
def columbariumlaw3_BitsPlaces.j0 : Nat → List Int → Int → Int → Int → List Int → List Int → Bool → Option (Bool)
  | 0, _, _, _, _, _, _, _ => none
  | k + 1, x0, x2, x7, x8, x10, x12, x67 => if x67 = true then (some false) else (columbariumlaw3_BitsPlaces.l0 k x0 x2 x7 x8 x10 x12 0)
def columbariumlaw3_BitsPlaces.l0 : Nat → List Int → Int → Int → Int → List Int → List Int → Int → Option (Bool)
  | 0, _, _, _, _, _, _, _ => none
  | k + 1, x0, x2, x7, x8, x10, x12, x14 => if x14 < (wrap64 (8 * (x10.length : Int))) then (if 0 ≤ (wrap64 (Int.tdiv x14 8)) then (if (wrap64 (Int.tdiv x14 8)) < (x10.length : Int) then (if 0 ≤ (IntKind.u64.wrap (Int.tmod x14 8)) then (if (wrap64 (Int.tdiv x14 8)) < (x12.length : Int) then (if x14 ≥ (wrap64 (x7 * x8)) then (if x14 < (wrap64 ((wrap64 (x7 * x8)) + x8)) then (if 0 ≤ x7 then (if x7 < (x0.length : Int) then (if 0 ≤ (IntKind.u64.wrap (wrap64 (x14 - (wrap64 (x7 * x8))))) then (if (IntKind.u64.wrap (Go.bits .and .u8 (shr .u8 (rd x10 (wrap64 (Int.tdiv x14 8))) (IntKind.u64.wrap (Int.tmod x14 8))) 1)) = (Go.bits .and .u64 (shr .u64 (rd x0 x7) (IntKind.u64.wrap (wrap64 (x14 - (wrap64 (x7 * x8)))))) 1) then (if (IntKind.u64.wrap (Go.bits .and .u8 (shr .u8 (rd x12 (wrap64 (Int.tdiv x14 8))) (IntKind.u64.wrap (Int.tmod x14 8))) 1)) = (Go.bits .and .u64 (shr .u64 x2 (IntKind.u64.wrap (wrap64 (x14 - (wrap64 (x7 * x8)))))) 1) then (columbariumlaw3_BitsPlaces.l0 k x0 x2 x7 x8 x10 x12 (wrap64 (x14 + 1))) else (some false)) else (some false)) else (none)) else (none)) else (none)) else (if (Go.bits .and .u8 (shr .u8 (rd x10 (wrap64 (Int.tdiv x14 8))) (IntKind.u64.wrap (Int.tmod x14 8))) 1) = (Go.bits .and .u8 (shr .u8 (rd x12 (wrap64 (Int.tdiv x14 8))) (IntKind.u64.wrap (Int.tmod x14 8))) 1) then (columbariumlaw3_BitsPlaces.l0 k x0 x2 x7 x8 x10 x12 (wrap64 (x14 + 1))) else (some false))) else (if (Go.bits .and .u8 (shr .u8 (rd x10 (wrap64 (Int.tdiv x14 8))) (IntKind.u64.wrap (Int.tmod x14 8))) 1) = (Go.bits .and .u8 (shr .u8 (rd x12 (wrap64 (Int.tdiv x14 8))) (IntKind.u64.wrap (Int.tmod x14 8))) 1) then (columbariumlaw3_BitsPlaces.l0 k x0 x2 x7 x8 x10 x12 (wrap64 (x14 + 1))) else (some false))) else (none)) else (none)) else (none)) else (none)) else ((columbariumlaw3_known.f k).bind fun t161 => (some t161))
end
def columbariumlaw3_BitsPlaces.f (k : Nat) (l0 : List Int) (a1 : Int) (a2 : Int) : Option (Bool) := (columbariumlaw3_few.f l0).bind fun t128 => (if (t128.length : Int) = 0 then ((columbariumlaw3_known.f k).bind fun t131 => (some t131)) else ((columbariumbook_Within.f a1 0 (wrap64 ((t128.length : Int) - 1))).bind fun t132 => ((some (([] : List Int) : List Int)).bind fun y133 => (if y133.length + t128.length < 17592186044416 then ((some (y133 ++ t128 : List Int)).bind fun y136 => (if y136.length < 17592186044416 then ((bits_Width.f k (y136 ++ [a2])).bind fun t142 => ((some (([] : List Int) : List Int)).bind fun y143 => (if y143.length + t128.length < 17592186044416 then ((some (y143 ++ t128 : List Int)).bind fun y146 => (if 0 ≤ t132 then (if t132 < (y146.length : Int) then ((bits_Pack.f k t128 t142).bind fun bt150 => ((bits_Pack.f k (y146.set (t132 : Int).toNat a2) t142).bind fun bt154 => (if bt150.2 = 0 then (if bt154.2 = 0 then (columbariumlaw3_BitsPlaces.j0 k t128 a2 t132 t142 bt150.1 bt154.1 ((bt150.1.length : Int) != (bt154.1.length : Int))) else (columbariumlaw3_BitsPlaces.j0 k t128 a2 t132 t142 bt150.1 bt154.1 true)) else (columbariumlaw3_BitsPlaces.j0 k t128 a2 t132 t142 bt150.1 bt154.1 true)))) else (none)) else (none))) else (none)))) else (none))) else (none)))))
theorem columbariumlaw3_BitsPlaces.mono_l : ∀ k, (∀ y0 y1 y2 y3 y4 y5 y6, LeO (columbariumlaw3_BitsPlaces.j0 k y0 y1 y2 y3 y4 y5 y6) (columbariumlaw3_BitsPlaces.j0 (k + 1) y0 y1 y2 y3 y4 y5 y6)) ∧ (∀ y0 y1 y2 y3 y4 y5 y6, LeO (columbariumlaw3_BitsPlaces.l0 k y0 y1 y2 y3 y4 y5 y6) (columbariumlaw3_BitsPlaces.l0 (k + 1) y0 y1 y2 y3 y4 y5 y6))
  | 0 => ⟨fun _ _ _ _ _ _ _ r h => by simp [columbariumlaw3_BitsPlaces.j0] at h, fun _ _ _ _ _ _ _ r h => by simp [columbariumlaw3_BitsPlaces.l0] at h⟩
  | k + 1 => by
    obtain ⟨ih0, ih1⟩ := columbariumlaw3_BitsPlaces.mono_l k
    refine ⟨?_, ?_⟩
    · intro y0 y1 y2 y3 y4 y5 y6
      unfold columbariumlaw3_BitsPlaces.j0
      repeat' first
      | (with_reducible exact ih0 _ _ _ _ _ _ _)
      | (with_reducible exact ih1 _ _ _ _ _ _ _)
      | (with_reducible exact bits_Pack.mono _ _ _)
      | (with_reducible exact bits_Width.mono _ _)
      | (with_reducible exact columbariumlaw3_known.mono _)
      | (with_reducible exact LeO.refl _)
      | (with_reducible exact LeO.none _)
      | (with_reducible refine LeO.ite ?_ ?_)
      | (with_reducible refine LeO.bind ?_ (fun _ => ?_))
      | exact ih0 _ _ _ _ _ _ _
      | exact ih1 _ _ _ _ _ _ _
      | exact bits_Pack.mono _ _ _
      | exact bits_Width.mono _ _
      | exact columbariumlaw3_known.mono _
      | exact LeO.none _
      | refine LeO.ite ?_ ?_
      | refine LeO.bind ?_ (fun _ => ?_)
    · intro y0 y1 y2 y3 y4 y5 y6
      unfold columbariumlaw3_BitsPlaces.l0
      repeat' first
      | (with_reducible exact ih0 _ _ _ _ _ _ _)
      | (with_reducible exact ih1 _ _ _ _ _ _ _)
      | (with_reducible exact bits_Pack.mono _ _ _)
      | (with_reducible exact bits_Width.mono _ _)
      | (with_reducible exact columbariumlaw3_known.mono _)
      | (with_reducible exact LeO.refl _)
      | (with_reducible exact LeO.none _)
      | (with_reducible refine LeO.ite ?_ ?_)
      | (with_reducible refine LeO.bind ?_ (fun _ => ?_))
      | exact ih0 _ _ _ _ _ _ _
      | exact ih1 _ _ _ _ _ _ _
      | exact bits_Pack.mono _ _ _
      | exact bits_Width.mono _ _
      | exact columbariumlaw3_known.mono _
      | exact LeO.none _
      | refine LeO.ite ?_ ?_
      | refine LeO.bind ?_ (fun _ => ?_)
theorem columbariumlaw3_BitsPlaces.mono : ∀ a0 a1 a2 k, LeO (columbariumlaw3_BitsPlaces.f k a0 a1 a2) (columbariumlaw3_BitsPlaces.f (k + 1) a0 a1 a2) := by
  intro a0 a1 a2 k
  obtain ⟨ih0, ih1⟩ := columbariumlaw3_BitsPlaces.mono_l k
  unfold columbariumlaw3_BitsPlaces.f
  repeat' first
      | (with_reducible exact ih0 _ _ _ _ _ _ _)
      | (with_reducible exact ih1 _ _ _ _ _ _ _)
      | (with_reducible exact bits_Pack.mono _ _ _)
      | (with_reducible exact bits_Width.mono _ _)
      | (with_reducible exact columbariumlaw3_known.mono _)
      | (with_reducible exact LeO.refl _)
      | (with_reducible exact LeO.none _)
      | (with_reducible refine LeO.ite ?_ ?_)
      | (with_reducible refine LeO.bind ?_ (fun _ => ?_))
      | exact ih0 _ _ _ _ _ _ _
      | exact ih1 _ _ _ _ _ _ _
      | exact bits_Pack.mono _ _ _
      | exact bits_Width.mono _ _
      | exact columbariumlaw3_known.mono _
      | exact LeO.none _
      | refine LeO.ite ?_ ?_
      | refine LeO.bind ?_ (fun _ => ?_)
set_option maxHeartbeats 8000000 in
set_option maxRecDepth 100000 in
theorem columbariumlaw3_BitsPlaces.calls (k : Nat) (A0 : Option Addr) (c0 : Nat) (l0 : List Int) (a1 : Int) (a2 : Int) (r : Bool) (w : World) (hr0 : Kd.C (Kd.int .u64) w A0 l0.length l0) (hc0 : l0.length ≤ c0) (h : columbariumlaw3_BitsPlaces.f k l0 a1 a2 = some r) :
    Calls Try.prog 4 #[.slice A0 l0.length c0, .int .i64 a1, .int .u64 a2] w fun e w' => e = .returned (.bool r) ∧ Below w.heap.size w w' := by
  have HR0 := Aside0.mk hr0
  have HC0 := Aside0.mk hc0
  clear hr0 hc0
  have HB := Aside0.mk (Below.refl w.heap.size w)
  have H : ((columbariumlaw3_few.f l0).bind fun t128 => (if (t128.length : Int) = 0 then ((columbariumlaw3_known.f k).bind fun t131 => (some t131)) else ((columbariumbook_Within.f a1 0 (wrap64 ((t128.length : Int) - 1))).bind fun t132 => ((some (([] : List Int) : List Int)).bind fun y133 => (if y133.length + t128.length < 17592186044416 then ((some (y133 ++ t128 : List Int)).bind fun y136 => (if y136.length < 17592186044416 then ((bits_Width.f k (y136 ++ [a2])).bind fun t142 => ((some (([] : List Int) : List Int)).bind fun y143 => (if y143.length + t128.length < 17592186044416 then ((some (y143 ++ t128 : List Int)).bind fun y146 => (if 0 ≤ t132 then (if t132 < (y146.length : Int) then ((bits_Pack.f k t128 t142).bind fun bt150 => ((bits_Pack.f k (y146.set (t132 : Int).toNat a2) t142).bind fun bt154 => (if bt150.2 = 0 then (if bt154.2 = 0 then (columbariumlaw3_BitsPlaces.j0 k t128 a2 t132 t142 bt150.1 bt154.1 ((bt150.1.length : Int) != (bt154.1.length : Int))) else (columbariumlaw3_BitsPlaces.j0 k t128 a2 t132 t142 bt150.1 bt154.1 true)) else (columbariumlaw3_BitsPlaces.j0 k t128 a2 t132 t142 bt150.1 bt154.1 true)))) else (none)) else (none))) else (none)))) else (none))) else (none)))))) = some r := h
  clear h
  replace H := Option.bind_eq_some_iff.mp H
  obtain ⟨t128, A40, H⟩ := H
  replace H : (if (t128.length : Int) = 0 then ((columbariumlaw3_known.f k).bind fun t131 => (some t131)) else ((columbariumbook_Within.f a1 0 (wrap64 ((t128.length : Int) - 1))).bind fun t132 => ((some (([] : List Int) : List Int)).bind fun y133 => (if y133.length + t128.length < 17592186044416 then ((some (y133 ++ t128 : List Int)).bind fun y136 => (if y136.length < 17592186044416 then ((bits_Width.f k (y136 ++ [a2])).bind fun t142 => ((some (([] : List Int) : List Int)).bind fun y143 => (if y143.length + t128.length < 17592186044416 then ((some (y143 ++ t128 : List Int)).bind fun y146 => (if 0 ≤ t132 then (if t132 < (y146.length : Int) then ((bits_Pack.f k t128 t142).bind fun bt150 => ((bits_Pack.f k (y146.set (t132 : Int).toNat a2) t142).bind fun bt154 => (if bt150.2 = 0 then (if bt154.2 = 0 then (columbariumlaw3_BitsPlaces.j0 k t128 a2 t132 t142 bt150.1 bt154.1 ((bt150.1.length : Int) != (bt154.1.length : Int))) else (columbariumlaw3_BitsPlaces.j0 k t128 a2 t132 t142 bt150.1 bt154.1 true)) else (columbariumlaw3_BitsPlaces.j0 k t128 a2 t132 t142 bt150.1 bt154.1 true)))) else (none)) else (none))) else (none)))) else (none))) else (none))))) = some r := H
  have A4 := Aside0.mk A40
  clear A40
  by_cases c5 : (t128.length : Int) = 0
  · rw [if_pos c5] at H
    have c5b0 : ((t128.length : Int) == 0) = true := beq_iff_eq.mpr c5
    have c5b1 : ((t128.length : Int) != 0) = false := bne_eq_false_iff_eq.mpr c5
    clear c5
    replace H := Option.bind_eq_some_iff.mp H
    obtain ⟨t131, A60, H⟩ := H
    replace H : (some t131) = some r := H
    have A6 := Aside0.mk A60
    clear A60
    obtain rfl := Option.some.inj H
    go_enter Try.func4, Try.ntmps4
    go_wp2_with (first | ((with_reducible refine gate_callee (f := 9) rfl ?_); refine goesL_ (some 19) rfl rfl Try.func9 (by kernel_rfl) rfl #[.slice A0 l0.length c0] rfl (by (try simp only [List.map_toArray, List.map_cons, List.map_nil]); first | done | rfl | (simp only [List.length_drop, List.length_take]; rfl)) ?_; (with_reducible refine (columbariumlaw3_few.calls (fun k_ => k_ < w.heap.size) _ _ l0 t128 _ ?side1 A4.out).mono ?_); (case side1 => exact Kd.V_mk HC0.out (Kd.F_below (Kd.C_F (Kd.heap_int .u64) HR0.out) (by repeat (first | (with_reducible first | exact HB.out | apply below_alloc | apply pw_below_drewN | apply below_drew1) | exact HB.out)))); rintro e w7 ⟨v129, rfl, ho0, hb⟩; refine ⟨_, rfl, ?_⟩; have n0_ := Aside0.mk (Kd.V_lower (Kd.V_mono (ok' := fun k_ => True) ho0 (fun k_ hk_ => trivial)) (below_size (by repeat (first | (with_reducible first | exact HB.out | apply below_alloc | apply pw_below_drewN | apply below_drew1) | exact HB.out)))); have n1_ := Aside0.mk (below_step (by repeat (first | (with_reducible first | exact HB.out | apply below_alloc | apply pw_below_drewN | apply below_drew1) | exact HB.out)) hb); clear HB; have HO130 := n0_; have HB := n1_; clear n0_ n1_; (try clear hb); (try clear hb2); (try clear hk); (try clear hi); (try clear ho0); obtain ⟨Ao8, co8, eo8⟩ := Kd.V_slice HO130.out; subst eo8) | ((with_reducible refine gate_callee (f := 12) rfl ?_); refine goesL_ (some 23) rfl rfl Try.func12 (by kernel_rfl) rfl #[] rfl (by (try simp only [List.map_toArray, List.map_cons, List.map_nil]); first | done | rfl | (simp only [List.length_drop, List.length_take]; rfl)) ?_; (with_reducible refine (columbariumlaw3_known.calls k  t131 _ A6.out).mono ?_); rintro e w9 ⟨rfl, hb⟩; refine ⟨_, rfl, ?_⟩; have n0_ := Aside0.mk (Kd.V_below (by (with_reducible repeat (first | apply Kd.V_alloc | apply Kd.V_drewN | apply Kd.V_drew)); exact HO130.out) hb); have n1_ := Aside0.mk (below_step (by repeat (first | (with_reducible first | exact HB.out | apply below_alloc | apply pw_below_drewN | apply below_drew1) | exact HB.out)) hb); clear HO130; clear HB; have HO130 := n0_; have HB := n1_; clear n0_ n1_; (try clear hb); (try clear hb2); (try clear hk); (try clear hi)))
    go_ret
    exact ⟨by first | rfl | (simp [errW_none, errW_some] <;> rfl) | (simp [*, errW_none, errW_some] <;> rfl), by repeat (first | (with_reducible first | exact HB.out | apply below_alloc | apply pw_below_drewN | apply below_drew1) | exact HB.out)⟩
  · rw [if_neg c5] at H
    have c5b0 : ((t128.length : Int) == 0) = false := beq_eq_false_iff_ne.mpr c5
    have c5b1 : ((t128.length : Int) != 0) = true := bne_iff_ne.mpr c5
    have c5b2 : ¬ (t128 = []) := fun h_ => c5 (by rw [h_]; rfl)
    replace H := Option.bind_eq_some_iff.mp H
    obtain ⟨t132, A100, H⟩ := H
    replace H : ((some (([] : List Int) : List Int)).bind fun y133 => (if y133.length + t128.length < 17592186044416 then ((some (y133 ++ t128 : List Int)).bind fun y136 => (if y136.length < 17592186044416 then ((bits_Width.f k (y136 ++ [a2])).bind fun t142 => ((some (([] : List Int) : List Int)).bind fun y143 => (if y143.length + t128.length < 17592186044416 then ((some (y143 ++ t128 : List Int)).bind fun y146 => (if 0 ≤ t132 then (if t132 < (y146.length : Int) then ((bits_Pack.f k t128 t142).bind fun bt150 => ((bits_Pack.f k (y146.set (t132 : Int).toNat a2) t142).bind fun bt154 => (if bt150.2 = 0 then (if bt154.2 = 0 then (columbariumlaw3_BitsPlaces.j0 k t128 a2 t132 t142 bt150.1 bt154.1 ((bt150.1.length : Int) != (bt154.1.length : Int))) else (columbariumlaw3_BitsPlaces.j0 k t128 a2 t132 t142 bt150.1 bt154.1 true)) else (columbariumlaw3_BitsPlaces.j0 k t128 a2 t132 t142 bt150.1 bt154.1 true)))) else (none)) else (none))) else (none)))) else (none))) else (none))) = some r := H
    have A10 := Aside0.mk A100
    clear A100
    obtain ⟨y133, hy133⟩ : ∃ y_ : List Int, y_ = (([] : List Int)) := ⟨_, rfl⟩
    replace H : (if y133.length + t128.length < 17592186044416 then ((some (y133 ++ t128 : List Int)).bind fun y136 => (if y136.length < 17592186044416 then ((bits_Width.f k (y136 ++ [a2])).bind fun t142 => ((some (([] : List Int) : List Int)).bind fun y143 => (if y143.length + t128.length < 17592186044416 then ((some (y143 ++ t128 : List Int)).bind fun y146 => (if 0 ≤ t132 then (if t132 < (y146.length : Int) then ((bits_Pack.f k t128 t142).bind fun bt150 => ((bits_Pack.f k (y146.set (t132 : Int).toNat a2) t142).bind fun bt154 => (if bt150.2 = 0 then (if bt154.2 = 0 then (columbariumlaw3_BitsPlaces.j0 k t128 a2 t132 t142 bt150.1 bt154.1 ((bt150.1.length : Int) != (bt154.1.length : Int))) else (columbariumlaw3_BitsPlaces.j0 k t128 a2 t132 t142 bt150.1 bt154.1 true)) else (columbariumlaw3_BitsPlaces.j0 k t128 a2 t132 t142 bt150.1 bt154.1 true)))) else (none)) else (none))) else (none)))) else (none))) else (none)) = some r := by first | (rw [hy133]; with_reducible exact H) | (have H2_ := (Option.bind_some _ _).symm.trans H; rw [hy133]; with_reducible exact H2_) | (have H2_ := (Option.bind_some _ _).symm.trans H; with_reducible exact H2_) | with_reducible exact H | (rw [hy133]; exact H) | exact H
    have Ny133 := Aside0.mk hy133
    clear hy133
    by_cases c11 : y133.length + t128.length < 17592186044416
    · rw [if_pos c11] at H
      have LMc11 := Aside0.mk c11
      clear c11
      obtain ⟨y136, hy136⟩ : ∃ y_ : List Int, y_ = (y133 ++ t128) := ⟨_, rfl⟩
      replace H : (if y136.length < 17592186044416 then ((bits_Width.f k (y136 ++ [a2])).bind fun t142 => ((some (([] : List Int) : List Int)).bind fun y143 => (if y143.length + t128.length < 17592186044416 then ((some (y143 ++ t128 : List Int)).bind fun y146 => (if 0 ≤ t132 then (if t132 < (y146.length : Int) then ((bits_Pack.f k t128 t142).bind fun bt150 => ((bits_Pack.f k (y146.set (t132 : Int).toNat a2) t142).bind fun bt154 => (if bt150.2 = 0 then (if bt154.2 = 0 then (columbariumlaw3_BitsPlaces.j0 k t128 a2 t132 t142 bt150.1 bt154.1 ((bt150.1.length : Int) != (bt154.1.length : Int))) else (columbariumlaw3_BitsPlaces.j0 k t128 a2 t132 t142 bt150.1 bt154.1 true)) else (columbariumlaw3_BitsPlaces.j0 k t128 a2 t132 t142 bt150.1 bt154.1 true)))) else (none)) else (none))) else (none)))) else (none)) = some r := by first | (rw [hy136]; with_reducible exact H) | (have H2_ := (Option.bind_some _ _).symm.trans H; rw [hy136]; with_reducible exact H2_) | (have H2_ := (Option.bind_some _ _).symm.trans H; with_reducible exact H2_) | with_reducible exact H | (rw [hy136]; exact H) | exact H
      have Ny136 := Aside0.mk hy136
      clear hy136
      by_cases c12 : y136.length < 17592186044416
      · rw [if_pos c12] at H
        have LMc12 := Aside0.mk c12
        clear c12
        obtain ⟨y139, hy139⟩ : ∃ y_ : List Int, y_ = (y136 ++ [a2]) := ⟨_, rfl⟩
        replace H : ((bits_Width.f k y139).bind fun t142 => ((some (([] : List Int) : List Int)).bind fun y143 => (if y143.length + t128.length < 17592186044416 then ((some (y143 ++ t128 : List Int)).bind fun y146 => (if 0 ≤ t132 then (if t132 < (y146.length : Int) then ((bits_Pack.f k t128 t142).bind fun bt150 => ((bits_Pack.f k (y146.set (t132 : Int).toNat a2) t142).bind fun bt154 => (if bt150.2 = 0 then (if bt154.2 = 0 then (columbariumlaw3_BitsPlaces.j0 k t128 a2 t132 t142 bt150.1 bt154.1 ((bt150.1.length : Int) != (bt154.1.length : Int))) else (columbariumlaw3_BitsPlaces.j0 k t128 a2 t132 t142 bt150.1 bt154.1 true)) else (columbariumlaw3_BitsPlaces.j0 k t128 a2 t132 t142 bt150.1 bt154.1 true)))) else (none)) else (none))) else (none)))) = some r := by first | (rw [hy139]; with_reducible exact H) | (have H2_ := (Option.bind_some _ _).symm.trans H; rw [hy139]; with_reducible exact H2_) | (have H2_ := (Option.bind_some _ _).symm.trans H; with_reducible exact H2_) | with_reducible exact H | (rw [hy139]; exact H) | exact H
        have Ny139 := Aside0.mk hy139
        clear hy139
        replace H := Option.bind_eq_some_iff.mp H
        obtain ⟨t142, A130, H⟩ := H
        replace H : ((some (([] : List Int) : List Int)).bind fun y143 => (if y143.length + t128.length < 17592186044416 then ((some (y143 ++ t128 : List Int)).bind fun y146 => (if 0 ≤ t132 then (if t132 < (y146.length : Int) then ((bits_Pack.f k t128 t142).bind fun bt150 => ((bits_Pack.f k (y146.set (t132 : Int).toNat a2) t142).bind fun bt154 => (if bt150.2 = 0 then (if bt154.2 = 0 then (columbariumlaw3_BitsPlaces.j0 k t128 a2 t132 t142 bt150.1 bt154.1 ((bt150.1.length : Int) != (bt154.1.length : Int))) else (columbariumlaw3_BitsPlaces.j0 k t128 a2 t132 t142 bt150.1 bt154.1 true)) else (columbariumlaw3_BitsPlaces.j0 k t128 a2 t132 t142 bt150.1 bt154.1 true)))) else (none)) else (none))) else (none))) = some r := H
        have A13 := Aside0.mk A130
        clear A130
        obtain ⟨y143, hy143⟩ : ∃ y_ : List Int, y_ = (([] : List Int)) := ⟨_, rfl⟩
        replace H : (if y143.length + t128.length < 17592186044416 then ((some (y143 ++ t128 : List Int)).bind fun y146 => (if 0 ≤ t132 then (if t132 < (y146.length : Int) then ((bits_Pack.f k t128 t142).bind fun bt150 => ((bits_Pack.f k (y146.set (t132 : Int).toNat a2) t142).bind fun bt154 => (if bt150.2 = 0 then (if bt154.2 = 0 then (columbariumlaw3_BitsPlaces.j0 k t128 a2 t132 t142 bt150.1 bt154.1 ((bt150.1.length : Int) != (bt154.1.length : Int))) else (columbariumlaw3_BitsPlaces.j0 k t128 a2 t132 t142 bt150.1 bt154.1 true)) else (columbariumlaw3_BitsPlaces.j0 k t128 a2 t132 t142 bt150.1 bt154.1 true)))) else (none)) else (none))) else (none)) = some r := by first | (rw [hy143]; with_reducible exact H) | (have H2_ := (Option.bind_some _ _).symm.trans H; rw [hy143]; with_reducible exact H2_) | (have H2_ := (Option.bind_some _ _).symm.trans H; with_reducible exact H2_) | with_reducible exact H | (rw [hy143]; exact H) | exact H
        have Ny143 := Aside0.mk hy143
        clear hy143
        by_cases c14 : y143.length + t128.length < 17592186044416
        · rw [if_pos c14] at H
          have LMc14 := Aside0.mk c14
          clear c14
          obtain ⟨y146, hy146⟩ : ∃ y_ : List Int, y_ = (y143 ++ t128) := ⟨_, rfl⟩
          replace H : (if 0 ≤ t132 then (if t132 < (y146.length : Int) then ((bits_Pack.f k t128 t142).bind fun bt150 => ((bits_Pack.f k (y146.set (t132 : Int).toNat a2) t142).bind fun bt154 => (if bt150.2 = 0 then (if bt154.2 = 0 then (columbariumlaw3_BitsPlaces.j0 k t128 a2 t132 t142 bt150.1 bt154.1 ((bt150.1.length : Int) != (bt154.1.length : Int))) else (columbariumlaw3_BitsPlaces.j0 k t128 a2 t132 t142 bt150.1 bt154.1 true)) else (columbariumlaw3_BitsPlaces.j0 k t128 a2 t132 t142 bt150.1 bt154.1 true)))) else (none)) else (none)) = some r := by first | (rw [hy146]; with_reducible exact H) | (have H2_ := (Option.bind_some _ _).symm.trans H; rw [hy146]; with_reducible exact H2_) | (have H2_ := (Option.bind_some _ _).symm.trans H; with_reducible exact H2_) | with_reducible exact H | (rw [hy146]; exact H) | exact H
          have Ny146 := Aside0.mk hy146
          clear hy146
          by_cases c15 : 0 ≤ t132
          · rw [if_pos c15] at H
            have c15b0 : decide (0 ≤ t132) = true := decide_eq_true c15
            clear c15
            by_cases c16 : t132 < (y146.length : Int)
            · rw [if_pos c16] at H
              have c16b0 : decide (t132 < (y146.length : Int)) = true := decide_eq_true c16
              clear c16
              obtain ⟨y149, hy149⟩ : ∃ y_ : List Int, y_ = (y146.set (t132 : Int).toNat a2) := ⟨_, rfl⟩
              replace H : ((bits_Pack.f k t128 t142).bind fun bt150 => ((bits_Pack.f k y149 t142).bind fun bt154 => (if bt150.2 = 0 then (if bt154.2 = 0 then (columbariumlaw3_BitsPlaces.j0 k t128 a2 t132 t142 bt150.1 bt154.1 ((bt150.1.length : Int) != (bt154.1.length : Int))) else (columbariumlaw3_BitsPlaces.j0 k t128 a2 t132 t142 bt150.1 bt154.1 true)) else (columbariumlaw3_BitsPlaces.j0 k t128 a2 t132 t142 bt150.1 bt154.1 true)))) = some r := by first | (rw [hy149]; with_reducible exact H) | (have H2_ := (Option.bind_some _ _).symm.trans H; rw [hy149]; with_reducible exact H2_) | (have H2_ := (Option.bind_some _ _).symm.trans H; with_reducible exact H2_) | with_reducible exact H | (rw [hy149]; exact H) | exact H
              have Ny149 := Aside0.mk hy149
              clear hy149
              replace H := Option.bind_eq_some_iff.mp H
              obtain ⟨⟨t150, t151⟩, A180, H⟩ := H
              replace H : ((bits_Pack.f k y149 t142).bind fun bt154 => (if t151 = 0 then (if bt154.2 = 0 then (columbariumlaw3_BitsPlaces.j0 k t128 a2 t132 t142 t150 bt154.1 ((t150.length : Int) != (bt154.1.length : Int))) else (columbariumlaw3_BitsPlaces.j0 k t128 a2 t132 t142 t150 bt154.1 true)) else (columbariumlaw3_BitsPlaces.j0 k t128 a2 t132 t142 t150 bt154.1 true))) = some r := H
              have A18 := Aside0.mk A180
              clear A180
              replace H := Option.bind_eq_some_iff.mp H
              obtain ⟨⟨t154, t155⟩, A190, H⟩ := H
              replace H : (if t151 = 0 then (if t155 = 0 then (columbariumlaw3_BitsPlaces.j0 k t128 a2 t132 t142 t150 t154 ((t150.length : Int) != (t154.length : Int))) else (columbariumlaw3_BitsPlaces.j0 k t128 a2 t132 t142 t150 t154 true)) else (columbariumlaw3_BitsPlaces.j0 k t128 a2 t132 t142 t150 t154 true)) = some r := H
              have A19 := Aside0.mk A190
              clear A190
              have HC20 := Aside0.mk H
              clear H
              go_enter Try.func4, Try.ntmps4
              go_upto_region 10 with (first | ((with_reducible refine gate_callee (f := 9) rfl ?_); refine goesL_ (some 19) rfl rfl Try.func9 (by kernel_rfl) rfl #[.slice A0 l0.length c0] rfl (by (try simp only [List.map_toArray, List.map_cons, List.map_nil]); first | done | rfl | (simp only [List.length_drop, List.length_take]; rfl)) ?_; (with_reducible refine (columbariumlaw3_few.calls (fun k_ => k_ < w.heap.size) _ _ l0 t128 _ ?side1 A4.out).mono ?_); (case side1 => exact Kd.V_mk HC0.out (Kd.F_below (Kd.C_F (Kd.heap_int .u64) HR0.out) (by repeat (first | (with_reducible first | exact HB.out | apply below_alloc | apply pw_below_drewN | apply below_drew1) | exact HB.out)))); rintro e w21 ⟨v129, rfl, ho0, hb⟩; refine ⟨_, rfl, ?_⟩; have n0_ := Aside0.mk (Kd.V_lower (Kd.V_mono (ok' := fun k_ => True) ho0 (fun k_ hk_ => trivial)) (below_size (by repeat (first | (with_reducible first | exact HB.out | apply below_alloc | apply pw_below_drewN | apply below_drew1) | exact HB.out)))); have n1_ := Aside0.mk (below_step (by repeat (first | (with_reducible first | exact HB.out | apply below_alloc | apply pw_below_drewN | apply below_drew1) | exact HB.out)) hb); clear HB; have HO130 := n0_; have HB := n1_; clear n0_ n1_; (try clear hb); (try clear hb2); (try clear hk); (try clear hi); (try clear ho0); obtain ⟨Ao22, co22, eo22⟩ := Kd.V_slice HO130.out; subst eo22) | ((with_reducible refine gate_callee (f := 13) rfl ?_); refine goesL_ (some 28) rfl rfl Try.func13 (by kernel_rfl) rfl #[.int .i64 a1, .int .i64 0, .int .i64 (wrap64 ((t128.length : Int) - 1))] rfl (by (try simp only [List.map_toArray, List.map_cons, List.map_nil]); first | done | rfl | (simp only [List.length_drop, List.length_take]; rfl)) ?_; (with_reducible refine (columbariumbook_Within.calls a1 0 (wrap64 ((t128.length : Int) - 1)) t132 _ A10.out).mono ?_); rintro e w' ⟨rfl, ⟨nd, rfl⟩⟩; refine ⟨_, rfl, ?_⟩; (try (rw [drewN_self w21]; generalize hq_ : World.drewN w21 _ = w21; have n0_ : Aside0 (Kd.V (Kd.int .u64) 29 w21 w.heap.size (fun _ => True) (.slice Ao22 t128.length co22) t128) := ⟨by rw [← hq_]; exact (by (with_reducible repeat (first | apply Kd.V_alloc | apply Kd.V_drewN | apply Kd.V_drew)); exact HO130.out)⟩; have n1_ : Aside0 (Below w.heap.size w w21) := ⟨by rw [← hq_]; exact (by repeat (first | (with_reducible first | exact HB.out | apply below_alloc | apply pw_below_drewN | apply below_drew1) | exact HB.out))⟩; clear HO130 HB hq_; have HO130 := n0_; have HB := n1_; clear n0_ n1_))) | ((with_reducible refine gate_dst (N := 29) rfl ?_); (try (refine gate_guard (by rfl) ?_; dsimp only)); refine Kd.R_lit (Kd.int .u64) _ 29 ?hg (N := 29) ?hd (xs := ([] : List Int)) (inner := []) (ok := fun _ => True) (okp := fun _ => True) ?hr ?hp (fun _ hk => hk) trivial (Below.refl _ _) (Nat.le_refl _) (by simp) ?_; (case hd => rfl); (case hg => rfl); (case hr => first | (go_simp; done) | (go_simp; rfl)); (case hp => exact (Reps.none _ _)); intro v134 w23 ho24 hb hg_ hnew_; clear hg_ hnew_; (first | rw [← Ny133.out] at ho24 | (simp only [Int.reduceToNat] at ho24; rw [← Ny133.out] at ho24)); have n0_ := Aside0.mk (Kd.V_elder' (by (with_reducible repeat (first | apply Kd.V_alloc | apply Kd.V_drewN | apply Kd.V_drew)); exact HO130.out) (Kd.R_base ho24) hb); have n1_ := Aside0.mk (Kd.R_lower ho24 (below_size (by repeat (first | (with_reducible first | exact HB.out | apply below_alloc | apply pw_below_drewN | apply below_drew1) | exact HB.out)))); have n2_ := Aside0.mk (below_step (by repeat (first | (with_reducible first | exact HB.out | apply below_alloc | apply pw_below_drewN | apply below_drew1) | exact HB.out)) hb); clear HO130; clear HB; have HO130 := n0_; have HO135 := n1_; have HB := n2_; clear n0_ n1_ n2_; clear hb ho24) | ((with_reducible refine gate_builtin (b := .append) (xs := #[.tmp 29, .tmp 30]) rfl ?_); (try (refine gate_guard (by rfl) ?_; dsimp only)); at_builtin; refine Kd.R_append_rows (Kd.int .u64) (w0 := w) w.heap.size rfl (.tmp 29) (.tmp 30) 22 29 (.int .u64 0) 8 rfl Try.underlying22 info29 rfl (by decide) (by omega) v134 y133 t128 _ _ _ (fun _ => True) (fun _ => False) rfl rfl ?aO ?aR (fun _ _ h => h) (fun _ h => h.elim) ?aF ?aB ?aS ?aL ?_; (case aR => repeat (first | exact (Kd.V_reads' HO130.out).2.2 | (with_reducible refine Kd.C_alloc ?_ _) | (with_reducible refine Kd.C_drewN ?_ _) | (with_reducible refine Kd.C_drew ?_))); (case aB => exact (by repeat (first | (with_reducible first | exact HB.out | apply below_alloc | apply pw_below_drewN | apply below_drew1) | exact HB.out))); (case aF => exact (fun _ _ => trivial)); (case aO => exact (by (with_reducible repeat (first | apply Kd.R_alloc | apply Kd.R_drewN | apply Kd.R_drew)); exact HO135.out)); (case aS => exact (below_size (by repeat (first | (with_reducible first | exact HB.out | apply below_alloc | apply pw_below_drewN | apply below_drew1) | exact HB.out)))); (case aL => have := LMc11.out; omega); intro v137 w25 ho hb hg hat; rw [← Ny136.out] at ho; have n0_ := Aside0.mk (Kd.V_afterv (ok := (fun _ => True)) (by (with_reducible repeat (first | apply Kd.V_alloc | apply Kd.V_drewN | apply Kd.V_drew)); exact HO130.out) hg hat); have n1_ := Aside0.mk (hb); have n2_ := Aside0.mk (ho); clear HO130; clear HB; clear HO135; have HO130 := n0_; have HB := n1_; have HO138 := n2_; clear n0_ n1_ n2_; clear ho hb hg hat) | ((with_reducible refine gate_builtin (b := .append) (xs := #[.tmp 31, .tmp 33]) rfl ?_); (try (refine gate_guard (by rfl) ?_; dsimp only)); at_builtin; refine Kd.R_append (Kd.int .u64) (w0 := w) w.heap.size rfl (.tmp 31) (.tmp 33) 22 29 (.int .u64 0) 8 rfl Try.underlying22 info29 rfl (by decide) (by omega) v137 y136 a2 [.int .u64 a2] (fun _ => True) (fun _ => False) rfl rfl ?aP (fun _ hk => hk.elim) ?aF ?aO ?aB ?aS ?aL ?_; (case aP => exact rfl); (case aB => exact (by repeat (first | (with_reducible first | exact HB.out | apply below_alloc | apply pw_below_drewN | apply below_drew1) | exact HB.out))); (case aF => exact (fun _ _ => trivial)); (case aO => exact (by (with_reducible repeat (first | apply Kd.R_alloc | apply Kd.R_drewN | apply Kd.R_drew)); exact HO138.out)); (case aS => exact (below_size (by repeat (first | (with_reducible first | exact HB.out | apply below_alloc | apply pw_below_drewN | apply below_drew1) | exact HB.out)))); (case aL => have := LMc12.out; omega); intro v140 w26 ho hb hg hat; rw [← Ny139.out] at ho; have n0_ := Aside0.mk (Kd.V_afterv (ok := (fun _ => True)) (by (with_reducible repeat (first | apply Kd.V_alloc | apply Kd.V_drewN | apply Kd.V_drew)); exact HO130.out) hg hat); have n1_ := Aside0.mk (hb); have n2_ := Aside0.mk (ho); clear HO130; clear HB; clear HO138; have HO130 := n0_; have HB := n1_; have HO141 := n2_; clear n0_ n1_ n2_; clear ho hb hg hat; obtain ⟨Ao27, co27, eo27⟩ := Kd.R_slice HO141.out; subst eo27) | ((with_reducible refine gate_callee (f := 10) rfl ?_); refine goesL_ (some 35) rfl rfl Try.func10 (by kernel_rfl) rfl #[.slice Ao27 y139.length co27] rfl (by (try simp only [List.map_toArray, List.map_cons, List.map_nil]); first | done | rfl | (simp only [List.length_drop, List.length_take]; rfl)) ?_; (with_reducible refine (bits_Width.calls k _ _ y139 t142 _ ?side1 ?side2 A13.out).mono ?_); (case side1 => repeat (first | exact (Kd.R_reads' HO141.out).2.2 | (with_reducible refine Kd.C_alloc ?_ _) | (with_reducible refine Kd.C_drewN ?_ _) | (with_reducible refine Kd.C_drew ?_))); (case side2 => exact (Kd.R_reads' HO141.out).2.1); rintro e w' ⟨rfl, ⟨nd, rfl⟩⟩; refine ⟨_, rfl, ?_⟩; (try (rw [drewN_self w26]; generalize hq_ : World.drewN w26 _ = w26; have n0_ : Aside0 (Kd.V (Kd.int .u64) 29 w26 w.heap.size (fun k_ => (True ∧ some k_ ≠ (.slice Ao27 y139.length co27 : Value).ownBlock)) (.slice Ao22 t128.length co22) t128) := ⟨by rw [← hq_]; exact (by (with_reducible repeat (first | apply Kd.V_alloc | apply Kd.V_drewN | apply Kd.V_drew)); exact HO130.out)⟩; have n1_ : Aside0 (Kd.R (Kd.int .u64) 29 w26 w.heap.size (fun _ => True) (.slice Ao27 y139.length co27) y139) := ⟨by rw [← hq_]; exact (by (with_reducible repeat (first | apply Kd.R_alloc | apply Kd.R_drewN | apply Kd.R_drew)); exact HO141.out)⟩; have n2_ : Aside0 (Below w.heap.size w w26) := ⟨by rw [← hq_]; exact (by repeat (first | (with_reducible first | exact HB.out | apply below_alloc | apply pw_below_drewN | apply below_drew1) | exact HB.out))⟩; clear HO130 HO141 HB hq_; have HO130 := n0_; have HO141 := n1_; have HB := n2_; clear n0_ n1_ n2_))) | ((with_reducible refine gate_dst (N := 36) rfl ?_); (try (refine gate_guard (by rfl) ?_; dsimp only)); refine Kd.R_lit (Kd.int .u64) _ 29 ?hg (N := 36) ?hd (xs := ([] : List Int)) (inner := []) (ok := fun _ => True) (okp := fun _ => True) ?hr ?hp (fun _ hk => hk) trivial (Below.refl _ _) (Nat.le_refl _) (by simp) ?_; (case hd => rfl); (case hg => rfl); (case hr => first | (go_simp; done) | (go_simp; rfl)); (case hp => exact (Reps.none _ _)); intro v144 w28 ho29 hb hg_ hnew_; clear hg_ hnew_; (first | rw [← Ny143.out] at ho29 | (simp only [Int.reduceToNat] at ho29; rw [← Ny143.out] at ho29)); have n0_ := Aside0.mk (Kd.V_elder' (by (with_reducible repeat (first | apply Kd.V_alloc | apply Kd.V_drewN | apply Kd.V_drew)); exact HO130.out) (Kd.R_base ho29) hb); have n1_ := Aside0.mk (Kd.R_elder' (by (with_reducible repeat (first | apply Kd.R_alloc | apply Kd.R_drewN | apply Kd.R_drew)); exact HO141.out) (Kd.R_base ho29) hb); have n2_ := Aside0.mk (Kd.R_lower (Kd.R_new' ho29 (Kd.R_lt (by (with_reducible repeat (first | apply Kd.R_alloc | apply Kd.R_drewN | apply Kd.R_drew)); exact HO141.out))) (below_size (by repeat (first | (with_reducible first | exact HB.out | apply below_alloc | apply pw_below_drewN | apply below_drew1) | exact HB.out)))); have n3_ := Aside0.mk (below_step (by repeat (first | (with_reducible first | exact HB.out | apply below_alloc | apply pw_below_drewN | apply below_drew1) | exact HB.out)) hb); clear HO130; clear HO141; clear HB; have HO130 := n0_; have HO141 := n1_; have HO145 := n2_; have HB := n3_; clear n0_ n1_ n2_ n3_; clear hb ho29) | ((with_reducible refine gate_builtin (b := .append) (xs := #[.tmp 36, .tmp 37]) rfl ?_); (try (refine gate_guard (by rfl) ?_; dsimp only)); at_builtin; refine Kd.R_append_rows (Kd.int .u64) (w0 := w) w.heap.size rfl (.tmp 36) (.tmp 37) 22 29 (.int .u64 0) 8 rfl Try.underlying22 info29 rfl (by decide) (by omega) v144 y143 t128 _ _ _ (fun k_ => some k_ ≠ (.slice Ao27 y139.length co27 : Value).ownBlock) (fun _ => False) rfl rfl ?aO ?aR (fun _ _ h => h) (fun _ h => h.elim) ?aF ?aB ?aS ?aL ?_; (case aR => repeat (first | exact (Kd.V_reads' HO130.out).2.2 | (with_reducible refine Kd.C_alloc ?_ _) | (with_reducible refine Kd.C_drewN ?_ _) | (with_reducible refine Kd.C_drew ?_))); (case aB => exact (by repeat (first | (with_reducible first | exact HB.out | apply below_alloc | apply pw_below_drewN | apply below_drew1) | exact HB.out))); (case aF => exact (fun k_ hk => Kd.fresh' (Kd.R_lt (by (with_reducible repeat (first | apply Kd.R_alloc | apply Kd.R_drewN | apply Kd.R_drew)); exact HO141.out)) k_ hk)); (case aO => exact (by (with_reducible repeat (first | apply Kd.R_alloc | apply Kd.R_drewN | apply Kd.R_drew)); exact Kd.R_mono HO145.out (fun _ hk => hk.2))); (case aS => exact (below_size (by repeat (first | (with_reducible first | exact HB.out | apply below_alloc | apply pw_below_drewN | apply below_drew1) | exact HB.out)))); (case aL => have := LMc14.out; omega); intro v147 w30 ho hb hg hat; rw [← Ny146.out] at ho; have n0_ := Aside0.mk (Kd.V_afterv (ok := (fun k_ => some k_ ≠ (.slice Ao27 y139.length co27 : Value).ownBlock)) (by (with_reducible repeat (first | apply Kd.V_alloc | apply Kd.V_drewN | apply Kd.V_drew)); exact Kd.V_mono HO130.out (fun _ hk => ⟨hk.1.2, hk.2⟩)) hg hat); have n1_ := Aside0.mk (Kd.R_after (ok := (fun _ => True)) (by (with_reducible repeat (first | apply Kd.R_alloc | apply Kd.R_drewN | apply Kd.R_drew)); exact HO141.out) hg hat); have n2_ := Aside0.mk (hb); have n3_ := Aside0.mk (ho); clear HO130; clear HO141; clear HB; clear HO145; have HO130 := n0_; have HO141 := n1_; have HB := n2_; have HO148 := n3_; clear n0_ n1_ n2_ n3_; clear ho hb hg hat; have p17 : 0 ≤ (t132 : Int) := of_decide_eq_true (by first | (with_reducible assumption) | assumption); have q17 : (t132 : Int) < ((y146.length : Int) : Int) := of_decide_eq_true (by first | (with_reducible assumption) | assumption); obtain ⟨go17, co17, eo17, gb17, gl17, cl17, HG17⟩ := Kd.R_form HO148.out (by omega); (first | cases eo17 | (injection eo17 with ea_ en_ ec_; (first | subst ea_ | (injection ea_ with ea_; subst ea_)); subst ec_; clear en_)); have GB17 := Aside0.mk gb17; have GG17 := Aside0.mk HG17; clear gb17 gl17 HG17; obtain ⟨hx17_0, hf17_0⟩ := Kd.R_celln 0 HO148.out (t132 : Int) p17 q17; replace p17 := eq_true p17; replace q17 := eq_true q17; obtain ⟨hy31_, hz31_⟩ := Kd.R_celln 0 HO148.out (t132 : Int) (of_decide_eq_true (by first | (with_reducible assumption) | assumption)) (of_decide_eq_true (by first | (with_reducible assumption) | assumption)); have HP31 := Kd.R_putg HO148.out (t132 : Int) a2) | ((with_reducible refine gate_store (t := 29) (p := 42) rfl ?_); refine store_event (t := 29) (p := 42) (v := ?vo_w32) (w1 := (w30.setCell ⟨go17, (t132 : Int).toNat, none⟩ (.int .u64 a2))) ?hg ?ho ?hn ?hr ?_; (case ho => rfl); (case hg => rfl); (case hn => rfl); (case hr => first | (go_simp; done) | (go_simp; rfl)); intro w32 hw; have hg : w30.grownBy w32 (some go17) := (by rw [hw]; exact HP31.2); have hp_ : Kd.R (Kd.int .u64) 29 w32 w.heap.size (fun k_ => some k_ ≠ (.slice Ao27 y139.length co27 : Value).ownBlock) (.slice (some ⟨go17, 0, none⟩) y146.length co17) y149 := (by rw [hw, Ny149.out]; exact HP31.1); clear HP31; have n0_ := Aside0.mk (Kd.V_afterv (v := (.slice (some ⟨go17, 0, none⟩) y146.length co17)) (v1 := (.slice (some ⟨go17, 0, none⟩) y146.length co17)) (ok := (fun k_ => some k_ ≠ (.slice Ao27 y139.length co27 : Value).ownBlock)) (by (with_reducible repeat (first | apply Kd.V_alloc | apply Kd.V_drewN | apply Kd.V_drew)); exact HO130.out) hg (.inl rfl)); have n1_ := Aside0.mk (Kd.R_after (v := (.slice (some ⟨go17, 0, none⟩) y146.length co17)) (v1 := (.slice (some ⟨go17, 0, none⟩) y146.length co17)) (ok := (fun _ => True)) (by (with_reducible repeat (first | apply Kd.R_alloc | apply Kd.R_drewN | apply Kd.R_drew)); exact HO141.out) hg (.inl rfl)); have n2_ := Aside0.mk (hp_); have n3_ := Aside0.mk ((by rw [hw]; exact below_set (HB.out) GB17.out : Below w.heap.size w w32)); clear HO130; clear HO141; clear HO148; clear HB; have HO130 := n0_; have HO141 := n1_; have HO148 := n2_; have HB := n3_; clear n0_ n1_ n2_ n3_; clear hg hw hp_) | ((with_reducible refine gate_callee (f := 11) rfl ?_); refine goesL_ (some 46) rfl rfl Try.func11 (by kernel_rfl) rfl #[.slice Ao22 t128.length co22, .int .i64 t142] rfl (by (try simp only [List.map_toArray, List.map_cons, List.map_nil]); first | done | rfl | (simp only [List.length_drop, List.length_take]; rfl)) ?_; (with_reducible refine (bits_Pack.calls k _ _ t128 t142 t150 t151 _ ?side1 ?side2 A18.out).mono ?_); (case side1 => repeat (first | exact (Kd.V_reads' HO130.out).2.2 | (with_reducible refine Kd.C_alloc ?_ _) | (with_reducible refine Kd.C_drewN ?_ _) | (with_reducible refine Kd.C_drew ?_))); (case side2 => exact (Kd.V_reads' HO130.out).2.1); rintro e w33 ⟨v152, rfl, ho0, hb⟩; refine ⟨_, rfl, ?_⟩; have n0_ := Aside0.mk (Kd.V_elder' (by (with_reducible repeat (first | apply Kd.V_alloc | apply Kd.V_drewN | apply Kd.V_drew)); exact HO130.out) (Kd.R_base ho0) hb); have n1_ := Aside0.mk (Kd.R_below (by (with_reducible repeat (first | apply Kd.R_alloc | apply Kd.R_drewN | apply Kd.R_drew)); exact HO141.out) hb); have n2_ := Aside0.mk (Kd.R_below (by (with_reducible repeat (first | apply Kd.R_alloc | apply Kd.R_drewN | apply Kd.R_drew)); exact HO148.out) hb); have n3_ := Aside0.mk (Kd.R_lower ho0 (below_size (by repeat (first | (with_reducible first | exact HB.out | apply below_alloc | apply pw_below_drewN | apply below_drew1) | exact HB.out)))); have n4_ := Aside0.mk (below_step (by repeat (first | (with_reducible first | exact HB.out | apply below_alloc | apply pw_below_drewN | apply below_drew1) | exact HB.out)) hb); clear HO130; clear HO141; clear HO148; clear HB; have HO130 := n0_; have HO141 := n1_; have HO148 := n2_; have HO153 := n3_; have HB := n4_; clear n0_ n1_ n2_ n3_ n4_; (try clear hb); (try clear hb2); (try clear hk); (try clear hi); (try clear ho0)) | ((with_reducible refine gate_callee (f := 11) rfl ?_); refine goesL_ (some 52) rfl rfl Try.func11 (by kernel_rfl) rfl #[.slice (some ⟨go17, 0, none⟩) y149.length co17, .int .i64 t142] rfl (by (try simp only [List.map_toArray, List.map_cons, List.map_nil]); first | done | (rw [show y149.length = y146.length from (Kd.R_reads' HO148.out).1.symm] <;> rfl) | rfl | (simp only [List.length_drop, List.length_take]; rfl)) ?_; (with_reducible refine (bits_Pack.calls k _ _ y149 t142 t154 t155 _ ?side1 ?side2 A19.out).mono ?_); (case side1 => repeat (first | exact (Kd.R_reads' HO148.out).2.2 | (with_reducible refine Kd.C_alloc ?_ _) | (with_reducible refine Kd.C_drewN ?_ _) | (with_reducible refine Kd.C_drew ?_))); (case side2 => rw [show y149.length = y146.length from (Kd.R_reads' HO148.out).1.symm]; exact (Kd.R_reads' HO148.out).2.1); rintro e w34 ⟨v156, rfl, ho0, hb⟩; refine ⟨_, rfl, ?_⟩; have n0_ := Aside0.mk (Kd.V_elder' (by (with_reducible repeat (first | apply Kd.V_alloc | apply Kd.V_drewN | apply Kd.V_drew)); exact HO130.out) (Kd.R_base ho0) hb); have n1_ := Aside0.mk (Kd.R_below (by (with_reducible repeat (first | apply Kd.R_alloc | apply Kd.R_drewN | apply Kd.R_drew)); exact HO141.out) hb); have n2_ := Aside0.mk (Kd.R_below (by (with_reducible repeat (first | apply Kd.R_alloc | apply Kd.R_drewN | apply Kd.R_drew)); exact HO148.out) hb); have n3_ := Aside0.mk (Kd.R_elder' (by (with_reducible repeat (first | apply Kd.R_alloc | apply Kd.R_drewN | apply Kd.R_drew)); exact HO153.out) (Kd.R_base ho0) hb); have n4_ := Aside0.mk (Kd.R_lower (Kd.R_new' ho0 (Kd.R_lt (by (with_reducible repeat (first | apply Kd.R_alloc | apply Kd.R_drewN | apply Kd.R_drew)); exact HO153.out))) (below_size (by repeat (first | (with_reducible first | exact HB.out | apply below_alloc | apply pw_below_drewN | apply below_drew1) | exact HB.out)))); have n5_ := Aside0.mk (below_step (by repeat (first | (with_reducible first | exact HB.out | apply below_alloc | apply pw_below_drewN | apply below_drew1) | exact HB.out)) hb); clear HO130; clear HO141; clear HO148; clear HO153; clear HB; have HO130 := n0_; have HO141 := n1_; have HO148 := n2_; have HO153 := n3_; have HO157 := n4_; have HB := n5_; clear n0_ n1_ n2_ n3_ n4_ n5_; (try clear hb); (try clear hb2); (try clear hk); (try clear hi); (try clear ho0)))
              (try simp only [Act.put, List.setIfInBounds_toArray, List.set_cons_zero, List.set_cons_succ])
              go_cut [67] (fun v67 wc => ∃ (kq : Nat) (x67_19 : Bool), v67 = .bool x67_19 ∧ Aside0 (columbariumlaw3_BitsPlaces.j0 kq t128 a2 t132 t142 t150 t154 x67_19 = some r) ∧ Aside0 (kq ≤ k) ∧ Aside0 (Kd.V (Kd.int .u64) 29 wc w.heap.size (fun k_ => some k_ ≠ (v152 : Value).ownBlock ∧ some k_ ≠ (v156 : Value).ownBlock) (.slice Ao22 t128.length co22) t128) ∧ Aside0 (Kd.R (Kd.int .u8) 5 wc w.heap.size (fun k_ => some k_ ≠ (v156 : Value).ownBlock) v152 t150) ∧ Aside0 (Kd.R (Kd.int .u8) 5 wc w.heap.size (fun k_ => some k_ ≠ (v152 : Value).ownBlock) v156 t154) ∧ Aside0 (Below w.heap.size w wc))
              case first =>
                have H := HC20.out
                clear HC20
                by_cases c35 : t151 = 0
                · rw [if_pos c35] at H
                  have c35b0 : (t151 == 0) = true := beq_iff_eq.mpr c35
                  have c35b1 : (t151 != 0) = false := bne_eq_false_iff_eq.mpr c35
                  clear c35
                  (first | rw [c35b0] | (simp only [i64_w, i32_w]; rw [c35b0]) | skip)
                  by_cases c36 : t155 = 0
                  · rw [if_pos c36] at H
                    have c36b0 : (t155 == 0) = true := beq_iff_eq.mpr c36
                    have c36b1 : (t155 != 0) = false := bne_eq_false_iff_eq.mpr c36
                    clear c36
                    have H' := Aside0.mk H
                    clear H
                    obtain ⟨Ao37, co37, eo37⟩ := Kd.R_slice HO153.out
                    subst eo37
                    obtain ⟨Ao38, co38, eo38⟩ := Kd.R_slice HO157.out
                    subst eo38
                    go_wp2
                    go_meet
                    case rel => exact ⟨_, (((t150.length : Int) != (t154.length : Int))), (by first | rfl | (simp; done) | (simp [*]; done)), H', ⟨by first | omega | exact Nat.le_refl _⟩, ⟨by (with_reducible repeat (first | apply Kd.V_alloc | apply Kd.V_drewN | apply Kd.V_drew)); exact Kd.V_mono HO130.out (fun _ hk => ⟨hk.1.2, hk.2⟩)⟩, ⟨by (with_reducible repeat (first | apply Kd.R_alloc | apply Kd.R_drewN | apply Kd.R_drew)); exact Kd.R_mono HO153.out (fun _ hk => hk.2)⟩, ⟨by (with_reducible repeat (first | apply Kd.R_alloc | apply Kd.R_drewN | apply Kd.R_drew)); exact Kd.R_mono HO157.out (fun _ hk => hk.2)⟩, ⟨by repeat (first | (with_reducible first | exact HB.out | apply below_alloc | apply pw_below_drewN | apply below_drew1) | exact HB.out)⟩⟩
                  · rw [if_neg c36] at H
                    have c36b0 : (t155 == 0) = false := beq_eq_false_iff_ne.mpr c36
                    have c36b1 : (t155 != 0) = true := bne_iff_ne.mpr c36
                    have H' := Aside0.mk H
                    clear H
                    go_wp2
                    go_meet
                    case rel => exact ⟨_, (true), (by first | rfl | (simp; done) | (simp [*]; done)), H', ⟨by first | omega | exact Nat.le_refl _⟩, ⟨by (with_reducible repeat (first | apply Kd.V_alloc | apply Kd.V_drewN | apply Kd.V_drew)); exact Kd.V_mono HO130.out (fun _ hk => ⟨hk.1.2, hk.2⟩)⟩, ⟨by (with_reducible repeat (first | apply Kd.R_alloc | apply Kd.R_drewN | apply Kd.R_drew)); exact Kd.R_mono HO153.out (fun _ hk => hk.2)⟩, ⟨by (with_reducible repeat (first | apply Kd.R_alloc | apply Kd.R_drewN | apply Kd.R_drew)); exact Kd.R_mono HO157.out (fun _ hk => hk.2)⟩, ⟨by repeat (first | (with_reducible first | exact HB.out | apply below_alloc | apply pw_below_drewN | apply below_drew1) | exact HB.out)⟩⟩
                · rw [if_neg c35] at H
                  have c35b0 : (t151 == 0) = false := beq_eq_false_iff_ne.mpr c35
                  have c35b1 : (t151 != 0) = true := bne_iff_ne.mpr c35
                  (first | rw [c35b0] | (simp only [i64_w, i32_w]; rw [c35b0]) | skip)
                  have H' := Aside0.mk H
                  clear H
                  go_wp2
                  go_meet
                  case rel => exact ⟨_, (true), (by first | rfl | (simp; done) | (simp [*]; done)), H', ⟨by first | omega | exact Nat.le_refl _⟩, ⟨by (with_reducible repeat (first | apply Kd.V_alloc | apply Kd.V_drewN | apply Kd.V_drew)); exact Kd.V_mono HO130.out (fun _ hk => ⟨hk.1.2, hk.2⟩)⟩, ⟨by (with_reducible repeat (first | apply Kd.R_alloc | apply Kd.R_drewN | apply Kd.R_drew)); exact Kd.R_mono HO153.out (fun _ hk => hk.2)⟩, ⟨by (with_reducible repeat (first | apply Kd.R_alloc | apply Kd.R_drewN | apply Kd.R_drew)); exact Kd.R_mono HO157.out (fun _ hk => hk.2)⟩, ⟨by repeat (first | (with_reducible first | exact HB.out | apply below_alloc | apply pw_below_drewN | apply below_drew1) | exact HB.out)⟩⟩
              case rest =>
                clear HC20
                try clear c1
                try clear p1
                try clear q1
                try clear hx1
                try clear p2
                try clear c3
                try clear c4
                try clear c5
                try clear c5b0
                try clear c5b1
                try clear c5b2
                try clear p6
                try clear c9
                try clear c10
                try clear c11
                try clear c12
                try clear c13
                try clear c14
                try clear c15
                try clear c15b0
                try clear c16
                try clear c16b0
                try clear p17
                try clear q17
                try clear hx17
                try clear hf17
                try clear c35
                try clear c35b0
                try clear c35b1
                try clear c36
                try clear c36b0
                try clear c36b1
                try clear hx17_0
                try clear p17
                try clear q17
                obtain ⟨kq, x67_19, rfl, HA, HJ19, HO_0, HO_10, HO_12, HB⟩ := hcut
                cases kq with
                | zero => exact absurd HA.out (by simp [columbariumlaw3_BitsPlaces.j0])
                | succ kj19 =>
                  have H := HA.out
                  clear HA
                  simp only [columbariumlaw3_BitsPlaces.j0] at H
                  by_cases c39 : x67_19 = true
                  · subst c39
                    have H1 : (some false) = some r := by rw [if_pos rfl] at H; exact H
                    clear H
                    have H := H1
                    clear H1
                    obtain rfl := Option.some.inj H
                    go_wp2
                    go_ret
                    exact ⟨by first | rfl | (simp [errW_none, errW_some] <;> rfl) | (simp [*, errW_none, errW_some] <;> rfl), by repeat (first | (with_reducible first | exact HB.out | apply below_alloc | apply pw_below_drewN | apply below_drew1) | exact HB.out)⟩
                  · replace c39 := Bool.eq_false_iff.mpr c39
                    subst c39
                    have H1 : (columbariumlaw3_BitsPlaces.l0 kj19 t128 a2 t132 t142 t150 t154 0) = some r := by rw [if_neg (show ¬ (false = true) by decide)] at H; exact H
                    clear H
                    have H := H1
                    clear H1
                    have H' := Aside0.mk H
                    clear H
                    go_wp2
                    go_loopg [14] kj19 (fun kq v14 w' => ∃ (x14_2 : Int), v14 = .int .i64 x14_2 ∧ Aside0 (columbariumlaw3_BitsPlaces.l0 kq t128 a2 t132 t142 t150 t154 x14_2 = some r) ∧ Aside0 (kq ≤ kj19) ∧ Aside0 (Kd.V (Kd.int .u64) 29 w' w.heap.size (fun k_ => some k_ ≠ (v152 : Value).ownBlock ∧ some k_ ≠ (v156 : Value).ownBlock) (.slice Ao22 t128.length co22) t128) ∧ Aside0 (Kd.R (Kd.int .u8) 5 w' w.heap.size (fun k_ => some k_ ≠ (v156 : Value).ownBlock) v152 t150) ∧ Aside0 (Kd.R (Kd.int .u8) 5 w' w.heap.size (fun k_ => some k_ ≠ (v152 : Value).ownBlock) v156 t154) ∧ Aside0 (Below w.heap.size w w'))
                    case atStart => exact ⟨(0), (by first | rfl | (simp; done) | (simp [*]; done)), H', ⟨Nat.le_refl _⟩, ⟨by (with_reducible repeat (first | apply Kd.V_alloc | apply Kd.V_drewN | apply Kd.V_drew)); exact HO_0.out⟩, ⟨by (with_reducible repeat (first | apply Kd.R_alloc | apply Kd.R_drewN | apply Kd.R_drew)); exact HO_10.out⟩, ⟨by (with_reducible repeat (first | apply Kd.R_alloc | apply Kd.R_drewN | apply Kd.R_drew)); exact HO_12.out⟩, ⟨by repeat (first | (with_reducible first | exact HB.out | apply below_alloc | apply pw_below_drewN | apply below_drew1) | exact HB.out)⟩⟩
                    case round =>
                      clear H'
                      try clear c1
                      try clear p1
                      try clear q1
                      try clear hx1
                      try clear p2
                      try clear c3
                      try clear c4
                      try clear c5
                      try clear c5b0
                      try clear c5b1
                      try clear c5b2
                      try clear p6
                      try clear c9
                      try clear c10
                      try clear c11
                      try clear c12
                      try clear c13
                      try clear c14
                      try clear c15
                      try clear c15b0
                      try clear c16
                      try clear c16b0
                      try clear p17
                      try clear q17
                      try clear hx17
                      try clear hf17
                      try clear c35
                      try clear c35b0
                      try clear c35b1
                      try clear c36
                      try clear c36b0
                      try clear c36b1
                      try clear c39
                      try clear hx17_0
                      try clear p1
                      try clear p17
                      try clear p2
                      try clear p6
                      try clear q1
                      try clear q17
                      obtain ⟨x14_2, rfl, HA, HK2, HO_0, HO_10, HO_12, HB⟩ := hrel
                      cases gk with
                      | zero => exact absurd HA.out (by simp [columbariumlaw3_BitsPlaces.l0])
                      | succ k2 =>
                        have H := HA.out
                        clear HA
                        simp only [columbariumlaw3_BitsPlaces.l0] at H
                        by_cases c40 : x14_2 < (wrap64 (8 * (t150.length : Int)))
                        · rw [if_pos c40] at H
                          have c40b0 : decide (x14_2 < (wrap64 (8 * (t150.length : Int)))) = true := decide_eq_true c40
                          clear c40
                          obtain ⟨ji41, hji41⟩ : ∃ j_ : Int, (wrap64 (Int.tdiv x14_2 8)) = j_ := ⟨_, rfl⟩
                          replace H : (if 0 ≤ (ji41) then (if (ji41) < (t150.length : Int) then (if 0 ≤ (IntKind.u64.wrap (Int.tmod x14_2 8)) then (if (ji41) < (t154.length : Int) then (if x14_2 ≥ (wrap64 (t132 * t142)) then (if x14_2 < (wrap64 ((wrap64 (t132 * t142)) + t142)) then (if 0 ≤ t132 then (if t132 < (t128.length : Int) then (if 0 ≤ (IntKind.u64.wrap (wrap64 (x14_2 - (wrap64 (t132 * t142))))) then (if (IntKind.u64.wrap (Go.bits .and .u8 (shr .u8 (rd t150 (ji41)) (IntKind.u64.wrap (Int.tmod x14_2 8))) 1)) = (Go.bits .and .u64 (shr .u64 (rd t128 t132) (IntKind.u64.wrap (wrap64 (x14_2 - (wrap64 (t132 * t142)))))) 1) then (if (IntKind.u64.wrap (Go.bits .and .u8 (shr .u8 (rd t154 (ji41)) (IntKind.u64.wrap (Int.tmod x14_2 8))) 1)) = (Go.bits .and .u64 (shr .u64 a2 (IntKind.u64.wrap (wrap64 (x14_2 - (wrap64 (t132 * t142)))))) 1) then (columbariumlaw3_BitsPlaces.l0 k2 t128 a2 t132 t142 t150 t154 (wrap64 (x14_2 + 1))) else (some false)) else (some false)) else (none)) else (none)) else (none)) else (if (Go.bits .and .u8 (shr .u8 (rd t150 (ji41)) (IntKind.u64.wrap (Int.tmod x14_2 8))) 1) = (Go.bits .and .u8 (shr .u8 (rd t154 (ji41)) (IntKind.u64.wrap (Int.tmod x14_2 8))) 1) then (columbariumlaw3_BitsPlaces.l0 k2 t128 a2 t132 t142 t150 t154 (wrap64 (x14_2 + 1))) else (some false))) else (if (Go.bits .and .u8 (shr .u8 (rd t150 (ji41)) (IntKind.u64.wrap (Int.tmod x14_2 8))) 1) = (Go.bits .and .u8 (shr .u8 (rd t154 (ji41)) (IntKind.u64.wrap (Int.tmod x14_2 8))) 1) then (columbariumlaw3_BitsPlaces.l0 k2 t128 a2 t132 t142 t150 t154 (wrap64 (x14_2 + 1))) else (some false))) else (none)) else (none)) else (none)) else (none)) = some r := by first | (rw [hji41] at H; exact H) | (simp only [hji41] at H ⊢; exact H)
                          have hji41w : (IntKind.i64.wrap (Int.tdiv x14_2 8)) = ji41 := (i64_w _).trans hji41
                          by_cases c42 : 0 ≤ (ji41)
                          · rw [if_pos c42] at H
                            have c42b0 : decide (0 ≤ (ji41)) = true := decide_eq_true c42
                            clear c42
                            by_cases c43 : (ji41) < (t150.length : Int)
                            · rw [if_pos c43] at H
                              have c43b0 : decide ((ji41) < (t150.length : Int)) = true := decide_eq_true c43
                              clear c43
                              obtain ⟨ji44, hji44⟩ : ∃ j_ : Int, (IntKind.u64.wrap (Int.tmod x14_2 8)) = j_ := ⟨_, rfl⟩
                              replace H : (if 0 ≤ (ji44) then (if (ji41) < (t154.length : Int) then (if x14_2 ≥ (wrap64 (t132 * t142)) then (if x14_2 < (wrap64 ((wrap64 (t132 * t142)) + t142)) then (if 0 ≤ t132 then (if t132 < (t128.length : Int) then (if 0 ≤ (IntKind.u64.wrap (wrap64 (x14_2 - (wrap64 (t132 * t142))))) then (if (IntKind.u64.wrap (Go.bits .and .u8 (shr .u8 (rd t150 (ji41)) (ji44)) 1)) = (Go.bits .and .u64 (shr .u64 (rd t128 t132) (IntKind.u64.wrap (wrap64 (x14_2 - (wrap64 (t132 * t142)))))) 1) then (if (IntKind.u64.wrap (Go.bits .and .u8 (shr .u8 (rd t154 (ji41)) (ji44)) 1)) = (Go.bits .and .u64 (shr .u64 a2 (IntKind.u64.wrap (wrap64 (x14_2 - (wrap64 (t132 * t142)))))) 1) then (columbariumlaw3_BitsPlaces.l0 k2 t128 a2 t132 t142 t150 t154 (wrap64 (x14_2 + 1))) else (some false)) else (some false)) else (none)) else (none)) else (none)) else (if (Go.bits .and .u8 (shr .u8 (rd t150 (ji41)) (ji44)) 1) = (Go.bits .and .u8 (shr .u8 (rd t154 (ji41)) (ji44)) 1) then (columbariumlaw3_BitsPlaces.l0 k2 t128 a2 t132 t142 t150 t154 (wrap64 (x14_2 + 1))) else (some false))) else (if (Go.bits .and .u8 (shr .u8 (rd t150 (ji41)) (ji44)) 1) = (Go.bits .and .u8 (shr .u8 (rd t154 (ji41)) (ji44)) 1) then (columbariumlaw3_BitsPlaces.l0 k2 t128 a2 t132 t142 t150 t154 (wrap64 (x14_2 + 1))) else (some false))) else (none)) else (none)) = some r := by first | (rw [hji44] at H; exact H) | (simp only [hji44] at H ⊢; exact H)
                              by_cases c45 : 0 ≤ (ji44)
                              · rw [if_pos c45] at H
                                have c45b0 := eq_true c45
                                have c45b1 : decide (0 ≤ (ji44)) = true := decide_eq_true c45
                                clear c45
                                obtain ⟨ji46, hji46⟩ : ∃ j_ : Int, (shr .u8 (rd t150 (ji41)) (ji44)) = j_ := ⟨_, rfl⟩
                                replace H : (if (ji41) < (t154.length : Int) then (if x14_2 ≥ (wrap64 (t132 * t142)) then (if x14_2 < (wrap64 ((wrap64 (t132 * t142)) + t142)) then (if 0 ≤ t132 then (if t132 < (t128.length : Int) then (if 0 ≤ (IntKind.u64.wrap (wrap64 (x14_2 - (wrap64 (t132 * t142))))) then (if (IntKind.u64.wrap (Go.bits .and .u8 (ji46) 1)) = (Go.bits .and .u64 (shr .u64 (rd t128 t132) (IntKind.u64.wrap (wrap64 (x14_2 - (wrap64 (t132 * t142)))))) 1) then (if (IntKind.u64.wrap (Go.bits .and .u8 (shr .u8 (rd t154 (ji41)) (ji44)) 1)) = (Go.bits .and .u64 (shr .u64 a2 (IntKind.u64.wrap (wrap64 (x14_2 - (wrap64 (t132 * t142)))))) 1) then (columbariumlaw3_BitsPlaces.l0 k2 t128 a2 t132 t142 t150 t154 (wrap64 (x14_2 + 1))) else (some false)) else (some false)) else (none)) else (none)) else (none)) else (if (Go.bits .and .u8 (ji46) 1) = (Go.bits .and .u8 (shr .u8 (rd t154 (ji41)) (ji44)) 1) then (columbariumlaw3_BitsPlaces.l0 k2 t128 a2 t132 t142 t150 t154 (wrap64 (x14_2 + 1))) else (some false))) else (if (Go.bits .and .u8 (ji46) 1) = (Go.bits .and .u8 (shr .u8 (rd t154 (ji41)) (ji44)) 1) then (columbariumlaw3_BitsPlaces.l0 k2 t128 a2 t132 t142 t150 t154 (wrap64 (x14_2 + 1))) else (some false))) else (none)) = some r := by first | (rw [hji46] at H; exact H) | (simp only [hji46] at H ⊢; exact H)
                                have hji46_ : ((rd t150 (ji41)) / 2 ^ min (ji44).toNat 8) = ji46 := hji46
                                have hji46z : (ji44) ≤ 8 → ((rd t150 (ji41)) / 2 ^ (ji44).toNat) = ji46 := shr_small hji46
                                by_cases c47 : (ji41) < (t154.length : Int)
                                · rw [if_pos c47] at H
                                  have c47b0 : decide ((ji41) < (t154.length : Int)) = true := decide_eq_true c47
                                  clear c47
                                  have c48b0 := eq_true (of_decide_eq_true (by first | (with_reducible assumption) | assumption) : 0 ≤ (ji44))
                                  obtain ⟨ji49, hji49⟩ : ∃ j_ : Int, (shr .u8 (rd t154 (ji41)) (ji44)) = j_ := ⟨_, rfl⟩
                                  replace H : (if x14_2 ≥ (wrap64 (t132 * t142)) then (if x14_2 < (wrap64 ((wrap64 (t132 * t142)) + t142)) then (if 0 ≤ t132 then (if t132 < (t128.length : Int) then (if 0 ≤ (IntKind.u64.wrap (wrap64 (x14_2 - (wrap64 (t132 * t142))))) then (if (IntKind.u64.wrap (Go.bits .and .u8 (ji46) 1)) = (Go.bits .and .u64 (shr .u64 (rd t128 t132) (IntKind.u64.wrap (wrap64 (x14_2 - (wrap64 (t132 * t142)))))) 1) then (if (IntKind.u64.wrap (Go.bits .and .u8 (ji49) 1)) = (Go.bits .and .u64 (shr .u64 a2 (IntKind.u64.wrap (wrap64 (x14_2 - (wrap64 (t132 * t142)))))) 1) then (columbariumlaw3_BitsPlaces.l0 k2 t128 a2 t132 t142 t150 t154 (wrap64 (x14_2 + 1))) else (some false)) else (some false)) else (none)) else (none)) else (none)) else (if (Go.bits .and .u8 (ji46) 1) = (Go.bits .and .u8 (ji49) 1) then (columbariumlaw3_BitsPlaces.l0 k2 t128 a2 t132 t142 t150 t154 (wrap64 (x14_2 + 1))) else (some false))) else (if (Go.bits .and .u8 (ji46) 1) = (Go.bits .and .u8 (ji49) 1) then (columbariumlaw3_BitsPlaces.l0 k2 t128 a2 t132 t142 t150 t154 (wrap64 (x14_2 + 1))) else (some false))) = some r := by first | (rw [hji49] at H; exact H) | (simp only [hji49] at H ⊢; exact H)
                                  have hji49_ : ((rd t154 (ji41)) / 2 ^ min (ji44).toNat 8) = ji49 := hji49
                                  have hji49z : (ji44) ≤ 8 → ((rd t154 (ji41)) / 2 ^ (ji44).toNat) = ji49 := shr_small hji49
                                  by_cases c50 : x14_2 ≥ (wrap64 (t132 * t142))
                                  · rw [if_pos c50] at H
                                    have c50b0 : decide ((wrap64 (t132 * t142)) ≤ x14_2) = true := decide_eq_true c50
                                    clear c50
                                    by_cases c51 : x14_2 < (wrap64 ((wrap64 (t132 * t142)) + t142))
                                    · rw [if_pos c51] at H
                                      have c51b0 : decide (x14_2 < (wrap64 ((wrap64 (t132 * t142)) + t142))) = true := decide_eq_true c51
                                      clear c51
                                      by_cases c52 : 0 ≤ t132
                                      · rw [if_pos c52] at H
                                        have c52b0 : decide (0 ≤ t132) = true := decide_eq_true c52
                                        clear c52
                                        by_cases c53 : t132 < (t128.length : Int)
                                        · rw [if_pos c53] at H
                                          have c53b0 : decide (t132 < (t128.length : Int)) = true := decide_eq_true c53
                                          clear c53
                                          obtain ⟨ji54, hji54⟩ : ∃ j_ : Int, (IntKind.u64.wrap (wrap64 (x14_2 - (wrap64 (t132 * t142))))) = j_ := ⟨_, rfl⟩
                                          replace H : (if 0 ≤ (ji54) then (if (IntKind.u64.wrap (Go.bits .and .u8 (ji46) 1)) = (Go.bits .and .u64 (shr .u64 (rd t128 t132) (ji54)) 1) then (if (IntKind.u64.wrap (Go.bits .and .u8 (ji49) 1)) = (Go.bits .and .u64 (shr .u64 a2 (ji54)) 1) then (columbariumlaw3_BitsPlaces.l0 k2 t128 a2 t132 t142 t150 t154 (wrap64 (x14_2 + 1))) else (some false)) else (some false)) else (none)) = some r := by first | (rw [hji54] at H; exact H) | (simp only [hji54] at H ⊢; exact H)
                                          by_cases c55 : 0 ≤ (ji54)
                                          · rw [if_pos c55] at H
                                            have c55b0 := eq_true c55
                                            have c55b1 : decide (0 ≤ (ji54)) = true := decide_eq_true c55
                                            clear c55
                                            obtain ⟨ji56, hji56⟩ : ∃ j_ : Int, (shr .u64 (rd t128 t132) (ji54)) = j_ := ⟨_, rfl⟩
                                            replace H : (if (IntKind.u64.wrap (Go.bits .and .u8 (ji46) 1)) = (Go.bits .and .u64 (ji56) 1) then (if (IntKind.u64.wrap (Go.bits .and .u8 (ji49) 1)) = (Go.bits .and .u64 (shr .u64 a2 (ji54)) 1) then (columbariumlaw3_BitsPlaces.l0 k2 t128 a2 t132 t142 t150 t154 (wrap64 (x14_2 + 1))) else (some false)) else (some false)) = some r := by first | (rw [hji56] at H; exact H) | (simp only [hji56] at H ⊢; exact H)
                                            have hji56_ : ((rd t128 t132) / 2 ^ min (ji54).toNat 64) = ji56 := hji56
                                            have hji56z : (ji54) ≤ 64 → ((rd t128 t132) / 2 ^ (ji54).toNat) = ji56 := shr_small hji56
                                            by_cases c57 : (IntKind.u64.wrap (Go.bits .and .u8 (ji46) 1)) = (Go.bits .and .u64 (ji56) 1)
                                            · rw [if_pos c57] at H
                                              have c57b0 : ((IntKind.u64.wrap (Go.bits .and .u8 (ji46) 1)) == (Go.bits .and .u64 (ji56) 1)) = true := beq_iff_eq.mpr c57
                                              have c57b1 : ((IntKind.u64.wrap (Go.bits .and .u8 (ji46) 1)) != (Go.bits .and .u64 (ji56) 1)) = false := bne_eq_false_iff_eq.mpr c57
                                              clear c57
                                              have c58b0 := eq_true (of_decide_eq_true (by first | (with_reducible assumption) | assumption) : 0 ≤ (ji54))
                                              obtain ⟨ji59, hji59⟩ : ∃ j_ : Int, (shr .u64 a2 (ji54)) = j_ := ⟨_, rfl⟩
                                              replace H : (if (IntKind.u64.wrap (Go.bits .and .u8 (ji49) 1)) = (Go.bits .and .u64 (ji59) 1) then (columbariumlaw3_BitsPlaces.l0 k2 t128 a2 t132 t142 t150 t154 (wrap64 (x14_2 + 1))) else (some false)) = some r := by first | (rw [hji59] at H; exact H) | (simp only [hji59] at H ⊢; exact H)
                                              have hji59_ : (a2 / 2 ^ min (ji54).toNat 64) = ji59 := hji59
                                              have hji59z : (ji54) ≤ 64 → (a2 / 2 ^ (ji54).toNat) = ji59 := shr_small hji59
                                              by_cases c60 : (IntKind.u64.wrap (Go.bits .and .u8 (ji49) 1)) = (Go.bits .and .u64 (ji59) 1)
                                              · rw [if_pos c60] at H
                                                have c60b0 : ((IntKind.u64.wrap (Go.bits .and .u8 (ji49) 1)) == (Go.bits .and .u64 (ji59) 1)) = true := beq_iff_eq.mpr c60
                                                have c60b1 : ((IntKind.u64.wrap (Go.bits .and .u8 (ji49) 1)) != (Go.bits .and .u64 (ji59) 1)) = false := bne_eq_false_iff_eq.mpr c60
                                                clear c60
                                                have H' := Aside0.mk H
                                                clear H
                                                obtain ⟨Ao61, co61, eo61⟩ := Kd.R_slice HO_10.out
                                                subst eo61
                                                have p158 : 0 ≤ ((ji41) : Int) := of_decide_eq_true (by first | (with_reducible assumption) | assumption)
                                                have q158 : (ji41) < (t150.length : Int) := of_decide_eq_true (by first | (with_reducible assumption) | assumption)
                                                obtain ⟨ad158, e158, hx158_0⟩ := Kd.at_int (Kd.R_reads' HO_10.out).2.2 (ji41) p158 q158
                                                cases e158
                                                replace p158 := eq_true p158
                                                replace q158 := eq_true q158
                                                obtain ⟨Ao62, co62, eo62⟩ := Kd.R_slice HO_12.out
                                                subst eo62
                                                have p159 : 0 ≤ ((ji41) : Int) := of_decide_eq_true (by first | (with_reducible assumption) | assumption)
                                                have q159 : (ji41) < (t154.length : Int) := of_decide_eq_true (by first | (with_reducible assumption) | assumption)
                                                obtain ⟨ad159, e159, hx159_0⟩ := Kd.at_int (Kd.R_reads' HO_12.out).2.2 (ji41) p159 q159
                                                cases e159
                                                replace p159 := eq_true p159
                                                replace q159 := eq_true q159
                                                have p160 : 0 ≤ (t132 : Int) := of_decide_eq_true (by first | (with_reducible assumption) | assumption)
                                                have q160 : t132 < (t128.length : Int) := of_decide_eq_true (by first | (with_reducible assumption) | assumption)
                                                obtain ⟨ad160, e160, hx160_0⟩ := Kd.at_int (Kd.V_reads' HO_0.out).2.2 t132 p160 q160
                                                cases e160
                                                replace p160 := eq_true p160
                                                replace q160 := eq_true q160
                                                go_wp2
                                                go_roundg k2
                                                case measure => have := HJ19.out; have := HK2.out; omega
                                                case rel => exact ⟨(wrap64 (x14_2 + 1)), (by first | rfl | (simp; done) | (simp [*]; done)), H', ⟨by have := HJ19.out; have := HK2.out; omega⟩, ⟨by (with_reducible repeat (first | apply Kd.V_alloc | apply Kd.V_drewN | apply Kd.V_drew)); exact HO_0.out⟩, ⟨by (with_reducible repeat (first | apply Kd.R_alloc | apply Kd.R_drewN | apply Kd.R_drew)); exact HO_10.out⟩, ⟨by (with_reducible repeat (first | apply Kd.R_alloc | apply Kd.R_drewN | apply Kd.R_drew)); exact HO_12.out⟩, ⟨by repeat (first | (with_reducible first | exact HB.out | apply below_alloc | apply pw_below_drewN | apply below_drew1) | exact HB.out)⟩⟩
                                              · rw [if_neg c60] at H
                                                have c60b0 : ((IntKind.u64.wrap (Go.bits .and .u8 (ji49) 1)) == (Go.bits .and .u64 (ji59) 1)) = false := beq_eq_false_iff_ne.mpr c60
                                                have c60b1 : ((IntKind.u64.wrap (Go.bits .and .u8 (ji49) 1)) != (Go.bits .and .u64 (ji59) 1)) = true := bne_iff_ne.mpr c60
                                                obtain rfl := Option.some.inj H
                                                obtain ⟨Ao63, co63, eo63⟩ := Kd.R_slice HO_10.out
                                                subst eo63
                                                have p158 : 0 ≤ ((ji41) : Int) := of_decide_eq_true (by first | (with_reducible assumption) | assumption)
                                                have q158 : (ji41) < (t150.length : Int) := of_decide_eq_true (by first | (with_reducible assumption) | assumption)
                                                obtain ⟨ad158, e158, hx158_0⟩ := Kd.at_int (Kd.R_reads' HO_10.out).2.2 (ji41) p158 q158
                                                cases e158
                                                replace p158 := eq_true p158
                                                replace q158 := eq_true q158
                                                obtain ⟨Ao64, co64, eo64⟩ := Kd.R_slice HO_12.out
                                                subst eo64
                                                have p159 : 0 ≤ ((ji41) : Int) := of_decide_eq_true (by first | (with_reducible assumption) | assumption)
                                                have q159 : (ji41) < (t154.length : Int) := of_decide_eq_true (by first | (with_reducible assumption) | assumption)
                                                obtain ⟨ad159, e159, hx159_0⟩ := Kd.at_int (Kd.R_reads' HO_12.out).2.2 (ji41) p159 q159
                                                cases e159
                                                replace p159 := eq_true p159
                                                replace q159 := eq_true q159
                                                have p160 : 0 ≤ (t132 : Int) := of_decide_eq_true (by first | (with_reducible assumption) | assumption)
                                                have q160 : t132 < (t128.length : Int) := of_decide_eq_true (by first | (with_reducible assumption) | assumption)
                                                obtain ⟨ad160, e160, hx160_0⟩ := Kd.at_int (Kd.V_reads' HO_0.out).2.2 t132 p160 q160
                                                cases e160
                                                replace p160 := eq_true p160
                                                replace q160 := eq_true q160
                                                go_wp2
                                                go_ret
                                                exact ⟨by first | rfl | (simp [errW_none, errW_some] <;> rfl) | (simp only [← hji41, ← hji44, ← hji46, ← hji49, ← hji54, ← hji56, ← hji59]; first | rfl | (simp [errW_none, errW_some] <;> rfl)) | (simp [*, errW_none, errW_some] <;> rfl), by repeat (first | (with_reducible first | exact HB.out | apply below_alloc | apply pw_below_drewN | apply below_drew1) | exact HB.out)⟩
                                            · rw [if_neg c57] at H
                                              have c57b0 : ((IntKind.u64.wrap (Go.bits .and .u8 (ji46) 1)) == (Go.bits .and .u64 (ji56) 1)) = false := beq_eq_false_iff_ne.mpr c57
                                              have c57b1 : ((IntKind.u64.wrap (Go.bits .and .u8 (ji46) 1)) != (Go.bits .and .u64 (ji56) 1)) = true := bne_iff_ne.mpr c57
                                              obtain rfl := Option.some.inj H
                                              obtain ⟨Ao65, co65, eo65⟩ := Kd.R_slice HO_10.out
                                              subst eo65
                                              have p158 : 0 ≤ ((ji41) : Int) := of_decide_eq_true (by first | (with_reducible assumption) | assumption)
                                              have q158 : (ji41) < (t150.length : Int) := of_decide_eq_true (by first | (with_reducible assumption) | assumption)
                                              obtain ⟨ad158, e158, hx158_0⟩ := Kd.at_int (Kd.R_reads' HO_10.out).2.2 (ji41) p158 q158
                                              cases e158
                                              replace p158 := eq_true p158
                                              replace q158 := eq_true q158
                                              obtain ⟨Ao66, co66, eo66⟩ := Kd.R_slice HO_12.out
                                              subst eo66
                                              have p159 : 0 ≤ ((ji41) : Int) := of_decide_eq_true (by first | (with_reducible assumption) | assumption)
                                              have q159 : (ji41) < (t154.length : Int) := of_decide_eq_true (by first | (with_reducible assumption) | assumption)
                                              obtain ⟨ad159, e159, hx159_0⟩ := Kd.at_int (Kd.R_reads' HO_12.out).2.2 (ji41) p159 q159
                                              cases e159
                                              replace p159 := eq_true p159
                                              replace q159 := eq_true q159
                                              have p160 : 0 ≤ (t132 : Int) := of_decide_eq_true (by first | (with_reducible assumption) | assumption)
                                              have q160 : t132 < (t128.length : Int) := of_decide_eq_true (by first | (with_reducible assumption) | assumption)
                                              obtain ⟨ad160, e160, hx160_0⟩ := Kd.at_int (Kd.V_reads' HO_0.out).2.2 t132 p160 q160
                                              cases e160
                                              replace p160 := eq_true p160
                                              replace q160 := eq_true q160
                                              go_wp2
                                              go_ret
                                              exact ⟨by first | rfl | (simp [errW_none, errW_some] <;> rfl) | (simp only [← hji41, ← hji44, ← hji46, ← hji49, ← hji54, ← hji56]; first | rfl | (simp [errW_none, errW_some] <;> rfl)) | (simp [*, errW_none, errW_some] <;> rfl), by repeat (first | (with_reducible first | exact HB.out | apply below_alloc | apply pw_below_drewN | apply below_drew1) | exact HB.out)⟩
                                          · rw [if_neg c55] at H
                                            exact absurd H (by simp)
                                        · rw [if_neg c53] at H
                                          exact absurd H (by simp)
                                      · rw [if_neg c52] at H
                                        exact absurd H (by simp)
                                    · rw [if_neg c51] at H
                                      have c51b0 : decide (x14_2 < (wrap64 ((wrap64 (t132 * t142)) + t142))) = false := decide_eq_false c51
                                      clear c51
                                      by_cases c67 : (Go.bits .and .u8 (ji46) 1) = (Go.bits .and .u8 (ji49) 1)
                                      · rw [if_pos c67] at H
                                        have c67b0 : ((Go.bits .and .u8 (ji46) 1) == (Go.bits .and .u8 (ji49) 1)) = true := beq_iff_eq.mpr c67
                                        have c67b1 : ((Go.bits .and .u8 (ji46) 1) != (Go.bits .and .u8 (ji49) 1)) = false := bne_eq_false_iff_eq.mpr c67
                                        clear c67
                                        have H' := Aside0.mk H
                                        clear H
                                        obtain ⟨Ao68, co68, eo68⟩ := Kd.R_slice HO_10.out
                                        subst eo68
                                        have p158 : 0 ≤ ((ji41) : Int) := of_decide_eq_true (by first | (with_reducible assumption) | assumption)
                                        have q158 : (ji41) < (t150.length : Int) := of_decide_eq_true (by first | (with_reducible assumption) | assumption)
                                        obtain ⟨ad158, e158, hx158_0⟩ := Kd.at_int (Kd.R_reads' HO_10.out).2.2 (ji41) p158 q158
                                        cases e158
                                        replace p158 := eq_true p158
                                        replace q158 := eq_true q158
                                        obtain ⟨Ao69, co69, eo69⟩ := Kd.R_slice HO_12.out
                                        subst eo69
                                        have p159 : 0 ≤ ((ji41) : Int) := of_decide_eq_true (by first | (with_reducible assumption) | assumption)
                                        have q159 : (ji41) < (t154.length : Int) := of_decide_eq_true (by first | (with_reducible assumption) | assumption)
                                        obtain ⟨ad159, e159, hx159_0⟩ := Kd.at_int (Kd.R_reads' HO_12.out).2.2 (ji41) p159 q159
                                        cases e159
                                        replace p159 := eq_true p159
                                        replace q159 := eq_true q159
                                        go_wp2
                                        go_roundg k2
                                        case measure => have := HJ19.out; have := HK2.out; omega
                                        case rel => exact ⟨(wrap64 (x14_2 + 1)), (by first | rfl | (simp; done) | (simp [*]; done)), H', ⟨by have := HJ19.out; have := HK2.out; omega⟩, ⟨by (with_reducible repeat (first | apply Kd.V_alloc | apply Kd.V_drewN | apply Kd.V_drew)); exact HO_0.out⟩, ⟨by (with_reducible repeat (first | apply Kd.R_alloc | apply Kd.R_drewN | apply Kd.R_drew)); exact HO_10.out⟩, ⟨by (with_reducible repeat (first | apply Kd.R_alloc | apply Kd.R_drewN | apply Kd.R_drew)); exact HO_12.out⟩, ⟨by repeat (first | (with_reducible first | exact HB.out | apply below_alloc | apply pw_below_drewN | apply below_drew1) | exact HB.out)⟩⟩
                                      · rw [if_neg c67] at H
                                        have c67b0 : ((Go.bits .and .u8 (ji46) 1) == (Go.bits .and .u8 (ji49) 1)) = false := beq_eq_false_iff_ne.mpr c67
                                        have c67b1 : ((Go.bits .and .u8 (ji46) 1) != (Go.bits .and .u8 (ji49) 1)) = true := bne_iff_ne.mpr c67
                                        obtain rfl := Option.some.inj H
                                        obtain ⟨Ao70, co70, eo70⟩ := Kd.R_slice HO_10.out
                                        subst eo70
                                        have p158 : 0 ≤ ((ji41) : Int) := of_decide_eq_true (by first | (with_reducible assumption) | assumption)
                                        have q158 : (ji41) < (t150.length : Int) := of_decide_eq_true (by first | (with_reducible assumption) | assumption)
                                        obtain ⟨ad158, e158, hx158_0⟩ := Kd.at_int (Kd.R_reads' HO_10.out).2.2 (ji41) p158 q158
                                        cases e158
                                        replace p158 := eq_true p158
                                        replace q158 := eq_true q158
                                        obtain ⟨Ao71, co71, eo71⟩ := Kd.R_slice HO_12.out
                                        subst eo71
                                        have p159 : 0 ≤ ((ji41) : Int) := of_decide_eq_true (by first | (with_reducible assumption) | assumption)
                                        have q159 : (ji41) < (t154.length : Int) := of_decide_eq_true (by first | (with_reducible assumption) | assumption)
                                        obtain ⟨ad159, e159, hx159_0⟩ := Kd.at_int (Kd.R_reads' HO_12.out).2.2 (ji41) p159 q159
                                        cases e159
                                        replace p159 := eq_true p159
                                        replace q159 := eq_true q159
                                        go_wp2
                                        go_ret
                                        exact ⟨by first | rfl | (simp [errW_none, errW_some] <;> rfl) | (simp only [← hji41, ← hji44, ← hji46, ← hji49]; first | rfl | (simp [errW_none, errW_some] <;> rfl)) | (simp [*, errW_none, errW_some] <;> rfl), by repeat (first | (with_reducible first | exact HB.out | apply below_alloc | apply pw_below_drewN | apply below_drew1) | exact HB.out)⟩
                                  · rw [if_neg c50] at H
                                    have c50b0 : decide ((wrap64 (t132 * t142)) ≤ x14_2) = false := decide_eq_false c50
                                    clear c50
                                    by_cases c72 : (Go.bits .and .u8 (ji46) 1) = (Go.bits .and .u8 (ji49) 1)
                                    · rw [if_pos c72] at H
                                      have c72b0 : ((Go.bits .and .u8 (ji46) 1) == (Go.bits .and .u8 (ji49) 1)) = true := beq_iff_eq.mpr c72
                                      have c72b1 : ((Go.bits .and .u8 (ji46) 1) != (Go.bits .and .u8 (ji49) 1)) = false := bne_eq_false_iff_eq.mpr c72
                                      clear c72
                                      have H' := Aside0.mk H
                                      clear H
                                      obtain ⟨Ao73, co73, eo73⟩ := Kd.R_slice HO_10.out
                                      subst eo73
                                      have p158 : 0 ≤ ((ji41) : Int) := of_decide_eq_true (by first | (with_reducible assumption) | assumption)
                                      have q158 : (ji41) < (t150.length : Int) := of_decide_eq_true (by first | (with_reducible assumption) | assumption)
                                      obtain ⟨ad158, e158, hx158_0⟩ := Kd.at_int (Kd.R_reads' HO_10.out).2.2 (ji41) p158 q158
                                      cases e158
                                      replace p158 := eq_true p158
                                      replace q158 := eq_true q158
                                      obtain ⟨Ao74, co74, eo74⟩ := Kd.R_slice HO_12.out
                                      subst eo74
                                      have p159 : 0 ≤ ((ji41) : Int) := of_decide_eq_true (by first | (with_reducible assumption) | assumption)
                                      have q159 : (ji41) < (t154.length : Int) := of_decide_eq_true (by first | (with_reducible assumption) | assumption)
                                      obtain ⟨ad159, e159, hx159_0⟩ := Kd.at_int (Kd.R_reads' HO_12.out).2.2 (ji41) p159 q159
                                      cases e159
                                      replace p159 := eq_true p159
                                      replace q159 := eq_true q159
                                      go_wp2
                                      go_roundg k2
                                      case measure => have := HJ19.out; have := HK2.out; omega
                                      case rel => exact ⟨(wrap64 (x14_2 + 1)), (by first | rfl | (simp; done) | (simp [*]; done)), H', ⟨by have := HJ19.out; have := HK2.out; omega⟩, ⟨by (with_reducible repeat (first | apply Kd.V_alloc | apply Kd.V_drewN | apply Kd.V_drew)); exact HO_0.out⟩, ⟨by (with_reducible repeat (first | apply Kd.R_alloc | apply Kd.R_drewN | apply Kd.R_drew)); exact HO_10.out⟩, ⟨by (with_reducible repeat (first | apply Kd.R_alloc | apply Kd.R_drewN | apply Kd.R_drew)); exact HO_12.out⟩, ⟨by repeat (first | (with_reducible first | exact HB.out | apply below_alloc | apply pw_below_drewN | apply below_drew1) | exact HB.out)⟩⟩
                                    · rw [if_neg c72] at H
                                      have c72b0 : ((Go.bits .and .u8 (ji46) 1) == (Go.bits .and .u8 (ji49) 1)) = false := beq_eq_false_iff_ne.mpr c72
                                      have c72b1 : ((Go.bits .and .u8 (ji46) 1) != (Go.bits .and .u8 (ji49) 1)) = true := bne_iff_ne.mpr c72
                                      obtain rfl := Option.some.inj H
                                      obtain ⟨Ao75, co75, eo75⟩ := Kd.R_slice HO_10.out
                                      subst eo75
                                      have p158 : 0 ≤ ((ji41) : Int) := of_decide_eq_true (by first | (with_reducible assumption) | assumption)
                                      have q158 : (ji41) < (t150.length : Int) := of_decide_eq_true (by first | (with_reducible assumption) | assumption)
                                      obtain ⟨ad158, e158, hx158_0⟩ := Kd.at_int (Kd.R_reads' HO_10.out).2.2 (ji41) p158 q158
                                      cases e158
                                      replace p158 := eq_true p158
                                      replace q158 := eq_true q158
                                      obtain ⟨Ao76, co76, eo76⟩ := Kd.R_slice HO_12.out
                                      subst eo76
                                      have p159 : 0 ≤ ((ji41) : Int) := of_decide_eq_true (by first | (with_reducible assumption) | assumption)
                                      have q159 : (ji41) < (t154.length : Int) := of_decide_eq_true (by first | (with_reducible assumption) | assumption)
                                      obtain ⟨ad159, e159, hx159_0⟩ := Kd.at_int (Kd.R_reads' HO_12.out).2.2 (ji41) p159 q159
                                      cases e159
                                      replace p159 := eq_true p159
                                      replace q159 := eq_true q159
                                      go_wp2
                                      go_ret
                                      exact ⟨by first | rfl | (simp [errW_none, errW_some] <;> rfl) | (simp only [← hji41, ← hji44, ← hji46, ← hji49]; first | rfl | (simp [errW_none, errW_some] <;> rfl)) | (simp [*, errW_none, errW_some] <;> rfl), by repeat (first | (with_reducible first | exact HB.out | apply below_alloc | apply pw_below_drewN | apply below_drew1) | exact HB.out)⟩
                                · rw [if_neg c47] at H
                                  exact absurd H (by simp)
                              · rw [if_neg c45] at H
                                exact absurd H (by simp)
                            · rw [if_neg c43] at H
                              exact absurd H (by simp)
                          · rw [if_neg c42] at H
                            exact absurd H (by simp)
                        · rw [if_neg c40] at H
                          have c40b0 : decide (x14_2 < (wrap64 (8 * (t150.length : Int)))) = false := decide_eq_false c40
                          clear c40
                          replace H := Option.bind_eq_some_iff.mp H
                          obtain ⟨t161, A770, H⟩ := H
                          replace H : (some t161) = some r := H
                          have A77 := Aside0.mk A770
                          clear A770
                          obtain rfl := Option.some.inj H
                          obtain ⟨Ao78, co78, eo78⟩ := Kd.R_slice HO_10.out
                          subst eo78
                          go_wp2_with (first | ((with_reducible refine gate_callee (f := 12) rfl ?_); refine goesL_ (some 150) rfl rfl Try.func12 (by kernel_rfl) rfl #[] rfl (by (try simp only [List.map_toArray, List.map_cons, List.map_nil]); first | done | rfl | (simp only [List.length_drop, List.length_take]; rfl)) ?_; (with_reducible refine (columbariumlaw3_known.calls k2  t161 _ A77.out).mono ?_); rintro e w79 ⟨rfl, hb⟩; refine ⟨_, rfl, ?_⟩; have n0_ := Aside0.mk (Kd.V_below (by (with_reducible repeat (first | apply Kd.V_alloc | apply Kd.V_drewN | apply Kd.V_drew)); exact HO_0.out) hb); have n1_ := Aside0.mk (Kd.R_below (by (with_reducible repeat (first | apply Kd.R_alloc | apply Kd.R_drewN | apply Kd.R_drew)); exact HO_10.out) hb); have n2_ := Aside0.mk (Kd.R_below (by (with_reducible repeat (first | apply Kd.R_alloc | apply Kd.R_drewN | apply Kd.R_drew)); exact HO_12.out) hb); have n3_ := Aside0.mk (below_step (by repeat (first | (with_reducible first | exact HB.out | apply below_alloc | apply pw_below_drewN | apply below_drew1) | exact HB.out)) hb); clear HO_0; clear HO_10; clear HO_12; clear HB; have HO_0 := n0_; have HO_10 := n1_; have HO_12 := n2_; have HB := n3_; clear n0_ n1_ n2_ n3_; (try clear hb); (try clear hb2); (try clear hk); (try clear hi)))
                          go_ret
                          exact ⟨by first | rfl | (simp [errW_none, errW_some] <;> rfl) | (simp [*, errW_none, errW_some] <;> rfl), by repeat (first | (with_reducible first | exact HB.out | apply below_alloc | apply pw_below_drewN | apply below_drew1) | exact HB.out)⟩
            · rw [if_neg c16] at H
              exact absurd H (by simp)
          · rw [if_neg c15] at H
            exact absurd H (by simp)
        · rw [if_neg c14] at H
          exact absurd H (by simp)
      · rw [if_neg c12] at H
        exact absurd H (by simp)
    · rw [if_neg c11] at H
      exact absurd H (by simp)

/-- THE ONE PURE STATEMENT of columbariumlaw3_BitsPlaces: yours. -/
def columbariumlaw3_BitsPlaces.Pure : Prop := ∀ (l0 : List Int) (a1 : Int) (a2 : Int), l0.length ≤ maxLen → l0.length * 8 ≤ 140737488351232 → (∀ x ∈ l0, (Lit.int .u64 x).wf = true) → (Lit.int .i64 a1).wf = true → (Lit.int .u64 a2).wf = true → ∃ k, columbariumlaw3_BitsPlaces.f k l0 a1 a2 = some true
theorem columbariumlaw3_BitsPlaces.walk (P : columbariumlaw3_BitsPlaces.Pure) (a0 : Option Addr) (len0 cap0 : Nat) (z0 : List Int) (a1 : Int) (a2 : Int) (w : World) (w0 : (a0 = none ∧ len0 = 0 ∧ cap0 = 0 ∧ z0 = []) ∨ ∃ x, a0 = some x ∧ len0 ≤ cap0 ∧ cap0 ≤ maxLen ∧ z0.length = cap0 ∧ (∀ i, i < z0.length → w.cell? (x.add i) = some (.int .u64 (z0.getD i 0))) ∧ ∀ n ∈ z0, (Lit.int .u64 n).wf = true) (y0 : len0 * 8 ≤ 140737488351232) (w1 : (Lit.int .i64 a1).wf = true) (w2 : (Lit.int .u64 a2).wf = true) :
    Calls Try.prog 4 #[.slice a0 len0 cap0, .int .i64 a1, .int .u64 a2] w fun e w' => e = .returned (.bool true) ∧ Below w.heap.size w w' := by
  obtain ⟨l0, rfl, hr0, hm0, hw0, hc0⟩ := ReadsInt.ofRowC w0
  obtain ⟨k, h⟩ := P l0 a1 a2 hm0 y0 hw0 w1 w2
  refine (columbariumlaw3_BitsPlaces.calls k _ _ l0 a1 a2 true w (Kd.C_of_reads (d := (0 : Int)) (h1 := fun _ => rfl) hr0) hc0 h).mono ?_
  rintro e w' ⟨rfl, hd⟩
  exact ⟨rfl, hd⟩

end Go.Proofs.Ytlalckngngppfaa.QBitsPlaces
