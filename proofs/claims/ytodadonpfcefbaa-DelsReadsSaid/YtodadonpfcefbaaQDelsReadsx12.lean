-- Written by a program of this session (wip/myprint.py): the machine's side of a law
import Derived.Test.YtodadonpfcefbaaQDelsReadsx0
import Derived.Test.YtodadonpfcefbaaQDelsReadsx6
import Derived.Test.YtodadonpfcefbaaQDelsReadsx9
import Derived.Test.YtodadonpfcefbaaQDelsReadsx10
import Derived.Test.YtodadonpfcefbaaQDelsReadsx11
namespace Go.Proofs.Ytodadonpfcefbaa.QDelsReads
open Go.RowKit Go.Proofs.YtodadonpfcefbaaW.PrintWords Go.Proofs.YtodadonpfcefbaaW.PrintLast Go.Proofs.YtodadonpfcefbaaW.PrintMore
attribute [local go_sem] max2_int min2_int max_two min_two max_three min_three max_four min_four   -- for this text's walks alone
set_option linter.unusedVariables false
set_option linter.unusedSimpArgs false

/-! ### columbariumref5_Decode: function 31 -/
/-! columbariumref5.Decode: by hand (shorter than the print; its steps are runs.Decode's) -/
def ref5_groups.f (k : Nat) (l0 out : List Int) (at_ n width m : Int) : Option (Int × Int × List Int) :=
  if 0 < width ∧ ((l0.length : Int) - at_) / width < m then some (10, at_, out)
  else if m = 0 ∨ (n - out.length + 7) / 8 < m then some (12, at_, out)
  else (columbariumref3_Unpack.f k (runs_part l0 at_ (m * width)) (8 * m) width).bind fun t =>
    if t.2 = 0 then (if ((out ++ t.1).drop n.toNat).any (fun x => x != 0) then some (12, at_, out) else some (0, at_ + m * width, (out ++ t.1).take n.toNat)) else some (12, at_, out)
def columbariumref5_Decode.step (k : Nat) (l0 : List Int) (n width head at_ : Int) (out : List Int) : Option (Int × Int × List Int) :=
  if head % 2 = 0 then some (runs_run.f l0 out at_ n width (head / 2)) else ref5_groups.f k l0 out at_ n width (head / 2)
def columbariumref5_Decode.last (k : Nat) (l0 : List Int) (a1 width at_ : Int) (out : List Int) : Option (List Int × Int × Int) :=
  (columbariumref5_Encode.f k out width).bind fun t => if t.2 = 0 then (if a1 ≤ at_ ∧ at_ ≤ (l0.length : Int) then
    (if (strOfNums t.1).toList = (strOfNums ((l0.take at_.toNat).drop a1.toNat)).toList then some (out, at_, 0) else some ([], 0, 12)) else none) else some ([], 0, 12)
def columbariumref5_Decode.l0 : Nat → List Int → Int → Int → Int → Int → List Int → Option (List Int × Int × Int)
  | 0, _, _, _, _, _, _ => none
  | k + 1, l0, a1, n, width, at_, out => if (out.length : Int) < n then
      ((columbariumref1_Get.f k l0 at_).bind fun t => if t.2.2 = 0 then (if (0 ≤ t.1 ∧ t.1 ≤ 18446744073709551615) ∧ (0 ≤ t.2.1 ∧ t.2.1 ≤ l0.length) then
        ((columbariumref5_Decode.step k l0 n width t.1 t.2.1 out).bind fun s => if s.1 = 0 then columbariumref5_Decode.l0 k l0 a1 n width s.2.1 s.2.2 else some ([], 0, s.1)) else none) else some ([], 0, t.2.2))
    else columbariumref5_Decode.last k l0 a1 width at_ out
def columbariumref5_Decode.f (k : Nat) (l0 : List Int) (a1 : Int) (a2 : Int) (a3 : Int) : Option (List Int × Int × Int) :=
  if l0.length ≤ 140737488355328 then (if a3 < 0 then some ([], 0, 15) else if a3 > 32 then some ([], 0, 15) else if a2 < 0 then some ([], 0, 1) else if a2 > 1048576 then some ([], 0, 1) else
    if a1 < 0 then some ([], 0, 1) else if a1 > (l0.length : Int) then some ([], 0, 1) else columbariumref5_Decode.l0 k l0 a1 a2 a3 a1 []) else none
theorem ref5_groups.mono (l0 out : List Int) (at_ n width m : Int) (k : Nat) : LeO (ref5_groups.f k l0 out at_ n width m) (ref5_groups.f (k + 1) l0 out at_ n width m) := by
  unfold ref5_groups.f
  repeat' first
  | (with_reducible exact LeO.refl _)
  | exact columbariumref3_Unpack.mono _ _ _ _
  | refine LeO.ite ?_ ?_
  | refine LeO.bind ?_ (fun _ => ?_)
theorem columbariumref5_Decode.mono_s (l0 : List Int) (n width head at_ : Int) (out : List Int) (k : Nat) : LeO (columbariumref5_Decode.step k l0 n width head at_ out) (columbariumref5_Decode.step (k + 1) l0 n width head at_ out) := by
  unfold columbariumref5_Decode.step
  repeat' first
  | (with_reducible exact LeO.refl _)
  | exact ref5_groups.mono _ _ _ _ _ _ _
  | refine LeO.ite ?_ ?_
theorem columbariumref5_Decode.mono_e (l0 : List Int) (a1 width at_ : Int) (out : List Int) (k : Nat) : LeO (columbariumref5_Decode.last k l0 a1 width at_ out) (columbariumref5_Decode.last (k + 1) l0 a1 width at_ out) := by
  unfold columbariumref5_Decode.last
  repeat' first
  | (with_reducible exact LeO.refl _)
  | exact columbariumref5_Encode.mono _ _ _
  | refine LeO.ite ?_ ?_
  | refine LeO.bind ?_ (fun _ => ?_)
theorem columbariumref5_Decode.mono_l : ∀ (k : Nat) (y0 : List Int) (y1 y2 y3 y4 : Int) (y5 : List Int), LeO (columbariumref5_Decode.l0 k y0 y1 y2 y3 y4 y5) (columbariumref5_Decode.l0 (k + 1) y0 y1 y2 y3 y4 y5)
  | 0 => fun _ _ _ _ _ _ r h => by simp [columbariumref5_Decode.l0] at h
  | k + 1 => by
    have ih := columbariumref5_Decode.mono_l k
    intro y0 y1 y2 y3 y4 y5
    unfold columbariumref5_Decode.l0
    repeat' first
    | exact ih _ _ _ _ _ _
    | (with_reducible exact LeO.refl _)
    | exact LeO.none _
    | exact columbariumref1_Get.mono _ _ _
    | exact columbariumref5_Decode.mono_s _ _ _ _ _ _ _
    | exact columbariumref5_Decode.mono_e _ _ _ _ _ _
    | refine LeO.ite ?_ ?_
    | refine LeO.bind ?_ (fun _ => ?_)
theorem columbariumref5_Decode.mono : ∀ a0 a1 a2 a3 k, LeO (columbariumref5_Decode.f k a0 a1 a2 a3) (columbariumref5_Decode.f (k + 1) a0 a1 a2 a3) := by
  intro a0 a1 a2 a3 k
  unfold columbariumref5_Decode.f
  repeat' first
  | exact columbariumref5_Decode.mono_l _ _ _ _ _ _ _
  | (with_reducible exact LeO.refl _)
  | exact LeO.none _
  | refine LeO.ite ?_ ?_
theorem ref5_apart {e : Nat} {W W1 : World} {base : Nat} {u u1 vx : Value} {x : List Int} (h : Kd.R (Kd.int .u64) e W base (fun k => some k ≠ u.ownBlock) vx x) (hg : W.grownBy W1 u.ownBlock)
    (hat : u1.ownBlock = u.ownBlock ∨ ∃ b, u1.ownBlock = some b ∧ W.heap.size ≤ b) : Kd.R (Kd.int .u64) e W1 base (fun k => some k ≠ u1.ownBlock) vx x := by
  refine Kd.R_mono (Kd.R_grown (Kd.R_bound h) hg (fun k hk => hk.1)) (fun k hk he => ?_)
  rcases hat with ha | ⟨b, ha, hb⟩
  · exact hk.1 (he.trans ha)
  · rw [ha] at he
    injection he with he
    have := hk.2.2.1
    omega
theorem ref5_take1 (X : List Int) (x : Int) (h0 : 0 ≤ x) (h1 : x < X.length) : X.take (x + 1).toNat = X.take x.toNat ++ [rd X x] := by
  rw [show (x + 1).toNat = x.toNat + 1 by omega, List.take_add_one, List.getElem?_eq_getElem (by omega)]
  simp only [rd, List.getD_eq_getElem?_getD, List.getElem?_eq_getElem (show x.toNat < X.length by omega), Option.toList_some, Option.getD_some]
theorem ref5_less (out X : List Int) (n : Nat) (x : Int) (p : Int → Bool) (h0 : 0 ≤ x) (h1 : x < X.length) (h : ((out ++ X.take x.toNat).take n).length < n) :
    (out ++ X.take (x + 1).toNat).take n = (out ++ X.take x.toNat).take n ++ [rd X x] ∧ ((out ++ X.take (x + 1).toNat).drop n).any p = false := by
  rw [ref5_take1 X x h0 h1, ← List.append_assoc]
  generalize out ++ X.take x.toNat = Z at h ⊢
  have hZ : Z.length < n := by rw [List.length_take] at h; omega
  rw [List.take_of_length_le (show (Z ++ [rd X x]).length ≤ n by rw [List.length_append, List.length_singleton]; omega), List.take_of_length_le (show Z.length ≤ n by omega),
    List.drop_eq_nil_of_le (show (Z ++ [rd X x]).length ≤ n by rw [List.length_append, List.length_singleton]; omega)]
  exact ⟨rfl, rfl⟩
theorem ref5_full (out X : List Int) (n : Nat) (x : Int) (p : Int → Bool) (h0 : 0 ≤ x) (h1 : x < X.length) (h : ¬ ((out ++ X.take x.toNat).take n).length < n) :
    (out ++ X.take (x + 1).toNat).take n = (out ++ X.take x.toNat).take n ∧ ((out ++ X.take (x + 1).toNat).drop n).any p = (((out ++ X.take x.toNat).drop n).any p || p (rd X x)) ∧
    (p (rd X x) = true → ((out ++ X).drop n).any p = true) := by
  have hX : out ++ X = (out ++ X.take x.toNat) ++ X.drop x.toNat := by rw [List.append_assoc, List.take_append_drop]
  rw [ref5_take1 X x h0 h1, ← List.append_assoc, hX, runs_drop_rd X x h0 h1]
  generalize out ++ X.take x.toNat = Z at h ⊢
  have hZ : n ≤ Z.length := by rw [List.length_take] at h; omega
  rw [List.take_append_of_le_length hZ, List.drop_append_of_le_length hZ, List.drop_append_of_le_length hZ, List.any_append, List.any_append]
  refine ⟨rfl, by simp, fun hp => ?_⟩
  rw [List.any_cons, hp, Bool.true_or, Bool.or_true]
set_option maxHeartbeats 8000000 in
set_option maxRecDepth 100000 in
theorem columbariumref5_Decode.calls (k : Nat) (A0 : Option Addr) (c0 : Nat) (l0 : List Int) (a1 : Int) (a2 : Int) (a3 : Int) (r1 : List Int) (r2 : Int) (r3 : Int) (w : World) (hr0 : Kd.C (Kd.int .u8) w A0 l0.length l0) (hc0 : l0.length ≤ c0) (h : columbariumref5_Decode.f k l0 a1 a2 a3 = some (r1, r2, r3)) :
    Calls Try.prog 31 #[.slice A0 l0.length c0, .int .i64 a1, .int .i64 a2, .int .i64 a3] w fun e w' => ∃ v0_ : Value, e = .returned (.tuple #[v0_, .int .i64 r2, .int .i64 r3]) ∧ Kd.R (Kd.int .u64) 53 w' w.heap.size (fun _ => True) v0_ r1 ∧ Below w.heap.size w w' := by
  have HB0 := Aside0.mk (Below.refl w.heap.size w)
  have HR0 := Aside0.mk hr0
  unfold columbariumref5_Decode.f at h
  by_cases hl : l0.length ≤ 140737488355328
  case neg => rw [if_neg hl] at h; cases h
  rw [if_pos hl] at h
  clear hr0
  by_cases c0 : a3 < 0
  · rw [if_pos c0] at h
    simp only [Option.some.injEq, Prod.mk.injEq] at h
    obtain ⟨rfl, rfl, rfl⟩ := h
    have c0b : decide (a3 < 0) = true := decide_eq_true c0
    clear c0
    go_enter Try.func31, Try.ntmps31
    go_wp2
    go_ret3
    exact ⟨_, rfl, Kd.R_nil _ _ _ _ _, HB0.out⟩
  rw [if_neg c0] at h
  have c0b : decide (a3 < 0) = false := decide_eq_false c0
  by_cases c1 : a3 > 32
  · rw [if_pos c1] at h
    simp only [Option.some.injEq, Prod.mk.injEq] at h
    obtain ⟨rfl, rfl, rfl⟩ := h
    have c1b : decide (32 < a3) = true := decide_eq_true c1
    clear c1
    go_enter Try.func31, Try.ntmps31
    go_wp2
    go_ret3
    exact ⟨_, rfl, Kd.R_nil _ _ _ _ _, HB0.out⟩
  rw [if_neg c1] at h
  have c1b : decide (32 < a3) = false := decide_eq_false c1
  by_cases c2 : a2 < 0
  · rw [if_pos c2] at h
    simp only [Option.some.injEq, Prod.mk.injEq] at h
    obtain ⟨rfl, rfl, rfl⟩ := h
    have c2b : decide (a2 < 0) = true := decide_eq_true c2
    clear c2
    go_enter Try.func31, Try.ntmps31
    go_wp2
    go_ret3
    exact ⟨_, rfl, Kd.R_nil _ _ _ _ _, HB0.out⟩
  rw [if_neg c2] at h
  have c2b : decide (a2 < 0) = false := decide_eq_false c2
  by_cases c3 : a2 > 1048576
  · rw [if_pos c3] at h
    simp only [Option.some.injEq, Prod.mk.injEq] at h
    obtain ⟨rfl, rfl, rfl⟩ := h
    have c3b : decide (1048576 < a2) = true := decide_eq_true c3
    clear c3
    go_enter Try.func31, Try.ntmps31
    go_wp2
    go_ret3
    exact ⟨_, rfl, Kd.R_nil _ _ _ _ _, HB0.out⟩
  rw [if_neg c3] at h
  have c3b : decide (1048576 < a2) = false := decide_eq_false c3
  by_cases c4 : a1 < 0
  · rw [if_pos c4] at h
    simp only [Option.some.injEq, Prod.mk.injEq] at h
    obtain ⟨rfl, rfl, rfl⟩ := h
    have c4b : decide (a1 < 0) = true := decide_eq_true c4
    clear c4
    go_enter Try.func31, Try.ntmps31
    go_wp2
    go_ret3
    exact ⟨_, rfl, Kd.R_nil _ _ _ _ _, HB0.out⟩
  rw [if_neg c4] at h
  have c4b : decide (a1 < 0) = false := decide_eq_false c4
  by_cases c5 : a1 > (l0.length : Int)
  · rw [if_pos c5] at h
    simp only [Option.some.injEq, Prod.mk.injEq] at h
    obtain ⟨rfl, rfl, rfl⟩ := h
    have c5b : decide ((l0.length : Int) < a1) = true := decide_eq_true c5
    clear c5
    go_enter Try.func31, Try.ntmps31
    go_wp2
    go_ret3
    exact ⟨_, rfl, Kd.R_nil _ _ _ _ _, HB0.out⟩
  rw [if_neg c5] at h
  have c5b : decide ((l0.length : Int) < a1) = false := decide_eq_false c5
  have H := Aside0.mk h
  have w0_ : 0 ≤ a3 := by omega
  have w1_ : a3 ≤ 32 := by omega
  have n0_ : 0 ≤ a2 := by omega
  have n1_ : a2 ≤ 1048576 := by omega
  have p0_ : 0 ≤ a1 := by omega
  have p1_ : a1 ≤ l0.length := by omega
  clear h c0 c1 c2 c3 c4 c5
  go_enter Try.func31, Try.ntmps31
  go_wp2
  go_loopg [11, 12] k (fun kq v11 v12 w' => ∃ (x1 : Int) (out : List Int), v12 = .int .i64 x1 ∧ Aside0 (columbariumref5_Decode.l0 kq l0 a1 a2 a3 x1 out = some (r1, r2, r3)) ∧ Aside0 (kq ≤ k) ∧ Aside0 (Kd.R (Kd.int .u64) 53 w' w.heap.size (fun _ => True) v11 out) ∧ Aside0 (Below w.heap.size w w'))
  case atStart => exact ⟨a1, [], rfl, H, ⟨Nat.le_refl _⟩, ⟨Kd.R_nil _ _ _ _ _⟩, HB0⟩
  case round =>
    clear H
    obtain ⟨x1, out, rfl, HA, HK, HO, HB⟩ := hrel
    cases gk with
    | zero => exact absurd HA.out (by simp [columbariumref5_Decode.l0])
    | succ k1 =>
      have H := HA.out
      clear HA
      simp only [columbariumref5_Decode.l0] at H
      obtain ⟨Ao, co, eo⟩ := Kd.R_slice HO.out
      subst eo
      by_cases d1 : (out.length : Int) < a2
      · rw [if_pos d1] at H
        have d1b : decide ((out.length : Int) < a2) = true := decide_eq_true d1
        obtain ⟨⟨t1, t2, t3⟩, A1, H⟩ := Option.bind_eq_some_iff.mp H
        have HA1 := Aside0.mk A1
        clear A1
        have HRw := Aside0.mk (Kd.C_below HR0.out HB.out)
        simp only at H
        by_cases d2 : t3 = 0
        · subst d2
          rw [if_pos rfl] at H
          by_cases d3 : (0 ≤ t1 ∧ t1 ≤ 18446744073709551615) ∧ (0 ≤ t2 ∧ t2 ≤ (l0.length : Int))
          case neg => rw [if_neg d3] at H; cases H
          rw [if_pos d3] at H
          obtain ⟨⟨d3a, d3b⟩, d3c, d3d⟩ := d3
          obtain ⟨s, A2, H⟩ := Option.bind_eq_some_iff.mp H
          obtain ⟨s1, s2, s3⟩ := s
          simp only at H
          unfold columbariumref5_Decode.step at A2
          obtain ⟨m, hm⟩ : ∃ m, t1 / 2 = m := ⟨_, rfl⟩
          have hm0 : 0 ≤ m := by omega
          have hm1 : m ≤ 18446744073709551615 := by omega
          rw [hm] at A2
          have HM := Aside0.mk hm
          clear hm
          by_cases dm : t1 % 2 = 0
          · have dmb : (t1 % 2 == 0) = true := beq_iff_eq.mpr dm
            rw [if_pos dm] at A2
            have A3 := Option.some.inj A2
            clear A2 dm
            unfold runs_run.f at A3
            by_cases e1 : (l0.length : Int) - t2 < (a3 + 7) / 8
            · rw [if_pos e1] at A3
              have e1b : decide ((l0.length : Int) - t2 < (a3 + 7) / 8) = true := decide_eq_true e1
              injection A3 with A3 A4
              subst A3
              rw [if_neg (by decide)] at H
              simp only [Option.some.injEq, Prod.mk.injEq] at H
              obtain ⟨rfl, rfl, rfl⟩ := H
              go_wp2_with (go_at_call 30; refine (columbariumref1_Get.calls k1 _ _ l0 x1 t1 t2 0 _ HRw.out hc0 HA1.out).mono ?_; rintro e w' ⟨rfl, ⟨nd, rfl⟩⟩)
              go_ret3
              exact ⟨_, rfl, Kd.R_nil _ _ _ _ _, pw_below_drewN HB.out _⟩
            · rw [if_neg e1] at A3
              have e1b : decide ((l0.length : Int) - t2 < (a3 + 7) / 8) = false := decide_eq_false e1
              obtain ⟨P, hP⟩ : ∃ P, P = runs_part l0 t2 ((a3 + 7) / 8) := ⟨_, rfl⟩
              have hPl := runs_part_len l0 t2 ((a3 + 7) / 8) d3c (by omega) (by omega)
              obtain ⟨V, hV⟩ : ∃ V, runs_val P 0 0 = V := ⟨_, rfl⟩
              rw [← hP] at A3 hPl
              rw [hV] at A3
              have HP := Aside0.mk hP
              have HPl := Aside0.mk hPl
              have HV := Aside0.mk hV
              have HA3 := Aside0.mk A3
              have HH := Aside0.mk H
              clear hP hPl hV A3 H
              go_wp2_with (go_at_call 30; refine (columbariumref1_Get.calls k1 _ _ l0 x1 t1 t2 0 _ HRw.out hc0 HA1.out).mono ?_; rintro e w' ⟨rfl, ⟨nd, rfl⟩⟩)
              try simp only [Act.put, List.setIfInBounds_toArray, List.set_cons_zero, List.set_cons_succ]
              go_loopg [19, 20] P.length (fun kq v19 v20 w' => ∃ (x7 x43 : Int), v19 = .int .u64 x7 ∧ v20 = .int .i64 x43 ∧ Aside0 (0 ≤ x43 ∧ x43 + kq = P.length) ∧ Aside0 (runs_val (P.drop x43.toNat) x43 x7 = V) ∧ wr.drewN nd = w')
              case atStart => exact ⟨0, 0, rfl, rfl, ⟨by omega⟩, ⟨by simpa using HV.out⟩, rfl⟩
              case round =>
                obtain ⟨x7, x43, rfl, rfl, HX, HA, rfl⟩ := hrel
                have hx0 := HX.out.1
                have hxe := HX.out.2
                cases gk with
                | zero =>
                  have hd : decide (x43 < (a3 + 7) / 8) = false := decide_eq_false (by have := HPl.out; omega)
                  have hVx : x7 = V := by
                    have := HA.out
                    rw [List.drop_eq_nil_of_le (by omega)] at this
                    exact this
                  subst hVx
                  clear hx0 hxe
                  have hfm : (m = 0 ∨ a2 - out.length < m) ∨ (0 < m ∧ m ≤ a2 - out.length) := by omega
                  rcases hfm with hf | hf
                  · have A3 := HA3.out
                    have H := HH.out
                    rw [if_pos hf] at A3
                    injection A3 with A3 A4
                    subst A3
                    rw [if_neg (by decide)] at H
                    simp only [Option.some.injEq, Prod.mk.injEq] at H
                    obtain ⟨rfl, rfl, rfl⟩ := H
                    cases hz : (t1 / 2 == 0)
                    · have hz2 : decide (a2 - out.length < t1 / 2) = true := decide_eq_true (by have := HM.out; have := beq_eq_false_iff_ne.mp hz; omega)
                      go_wp2
                      go_ret3
                      exact ⟨_, rfl, Kd.R_nil _ _ _ _ _, pw_below_drewN HB.out _⟩
                    · go_wp2
                      go_ret3
                      exact ⟨_, rfl, Kd.R_nil _ _ _ _ _, pw_below_drewN HB.out _⟩
                  · have A3 := HA3.out
                    rw [if_neg (by omega)] at A3
                    have hz : (t1 / 2 == 0) = false := beq_false_of_ne (by have := HM.out; omega)
                    have hz2 : decide (a2 - out.length < t1 / 2) = false := decide_eq_false (by have := HM.out; omega)
                    injection A3 with A3 A4
                    injection A4 with A4 A5
                    have H := HH.out
                    rw [if_pos A3.symm, ← A4, ← A5] at H
                    have HH2 := Aside0.mk H
                    obtain ⟨hfa, hfb⟩ := hf
                    clear A3 A4 A5 H HH HA3
                    go_wp2
                    go_loopg [11, 16] m.toNat (fun kq v11 v16 w' => ∃ (x16 : Int), v16 = .int .u64 x16 ∧ Aside0 (0 ≤ x16 ∧ x16 = kq ∧ kq ≤ m.toNat) ∧ Aside0 (∃ Y, Y = out ++ List.replicate (m.toNat - kq) x7 ∧ Kd.R (Kd.int .u64) 53 w' w.heap.size (fun _ => True) v11 Y) ∧ Aside0 (Below w.heap.size w w'))
                    case atStart => exact ⟨m, congrArg (Value.int .u64) HM.out, ⟨by omega⟩, ⟨out, by simp, Kd.R_drewN HO.out nd⟩, ⟨pw_below_drewN HB.out nd⟩⟩
                    case round =>
                      clear HO HB
                      obtain ⟨x16, rfl, HX, HY, HB⟩ := hrel
                      obtain ⟨Y, hY0, hO0⟩ := HY.out
                      have HYe := Aside0.mk hY0
                      have HO := Aside0.mk hO0
                      clear HY hY0 hO0
                      have hx0 := HX.out.1
                      have hxe := HX.out.2.1
                      have hxm := HX.out.2.2
                      cases gk with
                      | zero =>
                        have hd2 : decide (0 < x16) = false := decide_eq_false (by omega)
                        go_wp2
                        go_roundg k1
                        case measure => have := HK.out; omega
                        case rel => exact ⟨_, Y, rfl, ⟨by rw [HYe.out]; exact HH2.out⟩, ⟨by have := HK.out; omega⟩, HO, HB⟩
                      | succ k2 =>
                        have hd2 : decide (0 < x16) = true := decide_eq_true (by omega)
                        have hx16 : 0 < x16 ∧ x16 ≤ 18446744073709551615 := by omega
                        have HX16 := Aside0.mk hxe
                        obtain ⟨hx16a, hx16b⟩ := hx16
                        clear hx0 hxe
                        have hlY : (Y.length : Int) < 1048577 := by rw [HYe.out, List.length_append, List.length_replicate]; omega
                        have HLY := Aside0.mk hlY
                        clear hlY
                        obtain ⟨Y2, hY2⟩ : ∃ Y2, Y2 = Y ++ [x7] := ⟨_, rfl⟩
                        have HY2 := Aside0.mk hY2
                        clear hY2
                        go_wp2_with (first | ((with_reducible refine gate_builtin (b := .append) (xs := #[.tmp 115, .tmp 117]) rfl ?_); at_builtin; refine Kd.R_append (Kd.int .u64) (w0 := w) w.heap.size rfl (.tmp 115) (.tmp 117) 52 53 (.int .u64 0) 8 rfl Try.underlying52 info53 rfl (by decide) (by omega) _ Y (x7) [.int .u64 (x7)] (fun _ => True) (fun _ => False) rfl rfl ?aP (fun _ hk => hk.elim) ?aF ?aO ?aB ?aS ?aL ?_; (case aP => exact rfl); (case aB => exact HB.out); (case aF => exact fun _ _ => trivial); (case aO => exact HO.out); (case aS => exact HB.out.size); (case aL => have := HLY.out; omega); intro v9 w9 ho9 hb9 hg9 hat9; rw [← HY2.out] at ho9; have HO9 := Aside0.mk ho9; have HB9 := Aside0.mk hb9; clear ho9 hb9 hg9 hat9))
                        go_roundg k2
                        case measure => omega
                        case rel =>
                          have := HX16.out
                          refine ⟨x16 - 1, rfl, ⟨by omega⟩, ⟨Y2, ?_, HO9.out⟩, HB9⟩
                          rw [HY2.out, HYe.out, show m.toNat - k2 = (m.toNat - (k2 + 1)) + 1 by omega, List.replicate_succ', List.append_assoc]
                | succ k3 =>
                  have hd : decide (x43 < (a3 + 7) / 8) = true := decide_eq_true (by have := HPl.out; omega)
                  have hx5 : x43 < 5 := by have := HPl.out; omega
                  have hi1 : t2 + x43 < (l0.length : Int) := by have := HPl.out; omega
                  obtain ⟨ad, e2, hx⟩ := Kd.at_int HRw.out (t2 + x43) (by omega) hi1
                  cases e2
                  have hrd : rd l0 (t2 + x43) = rd P x43 := by
                    rw [HP.out]; simp only [rd, runs_part, List.getD_eq_getElem?_getD, List.getElem?_drop, List.getElem?_take]
                    rw [if_pos (by have := HPl.out; omega), show t2.toNat + x43.toNat = (t2 + x43).toNat by omega]
                  rw [hrd] at hx
                  clear hrd
                  have p1 : (0 ≤ t2 + x43) = True := eq_true (by omega)
                  have p2 : (t2 + x43 < (l0.length : Int)) = True := eq_true hi1
                  have H' := Aside0.mk HA.out
                  clear HA
                  obtain ⟨ji, hji⟩ : ∃ j_ : Int, shl .u64 (IntKind.u64.wrap (rd P x43)) (8 * x43) = j_ := ⟨_, rfl⟩
                  have hji_ : IntKind.u64.wrap (IntKind.u64.wrap (rd P x43) * 2 ^ min (8 * x43).toNat 64) = ji := hji
                  have hjiz : IntKind.u64.wrap (IntKind.u64.wrap (rd P x43) * 2 ^ (8 * x43).toNat) = ji := shl_small hji (show 8 * x43 ≤ 64 by omega)
                  have HJ := Aside0.mk hji
                  clear hji
                  go_wp2
                  go_roundg k3
                  case measure => omega
                  case rel =>
                    refine ⟨Go.bits .or .u64 x7 ji, x43 + 1, rfl, rfl, ⟨by omega⟩, ⟨?_⟩, rfl⟩
                    have h2 := H'.out
                    rw [runs_drop_rd P x43 hx0 (by omega)] at h2
                    simp only [runs_val] at h2
                    rw [HJ.out] at h2
                    exact h2
          · have dmb : (t1 % 2 == 0) = false := beq_false_of_ne dm
            rw [if_neg dm] at A2
            clear dm
            unfold ref5_groups.f at A2
            have hq0 : 0 ≤ ((l0.length : Int) - t2) / (if 0 < a3 then a3 else 1) := Int.ediv_nonneg (by omega) (by split <;> omega)
            by_cases g1 : 0 < a3 ∧ ((l0.length : Int) - t2) / a3 < m
            · rw [if_pos g1] at A2
              injection Option.some.inj A2 with A3 A4
              subst A3
              rw [if_neg (by decide)] at H
              simp only [Option.some.injEq, Prod.mk.injEq] at H
              obtain ⟨rfl, rfl, rfl⟩ := H
              have g1a : decide (0 < a3) = true := decide_eq_true g1.1
              have g1b : decide (((l0.length : Int) - t2) / a3 < t1 / 2) = true := decide_eq_true (by rw [HM.out]; exact g1.2)
              have g1c := g1.1
              have g1d : (a3 == 0) = false := beq_false_of_ne (by omega)
              clear A2 g1 hq0 A4
              go_wp2_with (go_at_call 30; refine (columbariumref1_Get.calls k1 _ _ l0 x1 t1 t2 0 _ HRw.out hc0 HA1.out).mono ?_; rintro e w' ⟨rfl, ⟨nd, rfl⟩⟩)
              go_ret3
              exact ⟨_, rfl, Kd.R_nil _ _ _ _ _, pw_below_drewN HB.out _⟩
            · rw [if_neg g1] at A2
              have hcs : (decide (0 < a3) = true ∧ 0 < a3 ∧ decide (((l0.length : Int) - t2) / a3 < t1 / 2) = false) ∨ (decide (0 < a3) = false) := by
                by_cases hw : 0 < a3
                · exact .inl ⟨decide_eq_true hw, hw, decide_eq_false (by rw [HM.out]; exact fun h => g1 ⟨hw, h⟩)⟩
                · exact .inr (decide_eq_false hw)
              have hsz0 : 0 ≤ m * a3 := Int.mul_nonneg hm0 w0_
              have hszm : m ≤ 131073 → m * a3 ≤ 4194336 := fun h => Int.le_trans (Int.mul_le_mul h w1_ w0_ (by decide)) (by decide)
              have hszl : m * a3 ≤ (l0.length : Int) - t2 := by
                by_cases hw : 0 < a3
                · have h2 : m ≤ ((l0.length : Int) - t2) / a3 := by
                    by_cases h3 : ((l0.length : Int) - t2) / a3 < m
                    · exact absurd ⟨hw, h3⟩ g1
                    · omega
                  exact (Int.le_ediv_iff_mul_le hw).mp h2
                · rw [show a3 = 0 by omega, Int.mul_zero]; omega
              clear hq0 g1
              have HCS := Aside0.mk hcs
              clear hcs
              by_cases g2 : m = 0 ∨ (a2 - out.length + 7) / 8 < m
              · rw [if_pos g2] at A2
                injection Option.some.inj A2 with A3 A4
                subst A3
                rw [if_neg (by decide)] at H
                simp only [Option.some.injEq, Prod.mk.injEq] at H
                obtain ⟨rfl, rfl, rfl⟩ := H
                clear A2 A4 hsz0 hszm hszl
                rcases HCS.out with ⟨hc1, hc2, hc3⟩ | hc1
                all_goals
                  cases hz : (t1 / 2 == 0)
                  · have hz2 : decide ((a2 - out.length + 7) / 8 < t1 / 2) = true := decide_eq_true (by have := HM.out; have := beq_eq_false_iff_ne.mp hz; omega)
                    go_wp2_with (go_at_call 30; refine (columbariumref1_Get.calls k1 _ _ l0 x1 t1 t2 0 _ HRw.out hc0 HA1.out).mono ?_; rintro e w' ⟨rfl, ⟨nd, rfl⟩⟩)
                    go_ret3
                    exact ⟨_, rfl, Kd.R_nil _ _ _ _ _, pw_below_drewN HB.out _⟩
                  · go_wp2_with (go_at_call 30; refine (columbariumref1_Get.calls k1 _ _ l0 x1 t1 t2 0 _ HRw.out hc0 HA1.out).mono ?_; rintro e w' ⟨rfl, ⟨nd, rfl⟩⟩)
                    go_ret3
                    exact ⟨_, rfl, Kd.R_nil _ _ _ _ _, pw_below_drewN HB.out _⟩
              · rw [if_neg g2] at A2
                have hz : (t1 / 2 == 0) = false := beq_false_of_ne (by have := HM.out; omega)
                have hz2 : decide ((a2 - out.length + 7) / 8 < t1 / 2) = false := decide_eq_false (by have := HM.out; omega)
                have hm9 : t1 / 2 ≤ 131073 := by have := HM.out; omega
                have hszb := hszm (by omega)
                obtain ⟨sz, hsz⟩ : ∃ sz, m * a3 = sz := ⟨_, rfl⟩
                rw [hsz] at A2 hsz0 hszl hszb
                have hmul : wrap64 (t1 / 2 * a3) = sz := by rw [HM.out, hsz]; unfold wrap64; omega
                have hmulw : IntKind.i64.wrap (t1 / 2 * a3) = sz := (i64_w _).trans hmul
                obtain ⟨⟨X, t5⟩, A6, A2⟩ := Option.bind_eq_some_iff.mp A2
                rw [← HM.out] at A6
                have HA6 := Aside0.mk A6
                simp only at A2
                obtain ⟨i0, hi0, _, hsy, _⟩ := info_parts info5
                obtain ⟨A9, hcut9, hA9, hC9⟩ := print_mid_of (P := Try.prog) (Value.int .u8) 0 38 5 .i64 .i64 Try.underlying38 hi0 hsy A0 c0 l0 t2 (t2 + sz) d3c (by omega) (by omega) hc0
                obtain ⟨P, hP⟩ : ∃ P, P = (l0.take (t2 + sz).toNat).drop t2.toNat := ⟨_, rfl⟩
                have HRP := Aside0.mk (Kd.C_of_reads (h1 := fun _ => rfl) (hA9 wr (Kd.reads_of_C HRw.out)))
                rw [← hP] at hcut9 hC9 HRP
                have HP := Aside0.mk hP
                have HSZ := Aside0.mk hsz
                have hgl := Aside0.mk (Kd.R_lt HO.out)
                clear hA9 hsy hi0 hP A6 hsz hszm g2
                by_cases e5 : t5 = 0
                · subst e5
                  rw [if_pos rfl] at A2
                  have HH := Aside0.mk H
                  have HA2 := Aside0.mk A2
                  clear H A2
                  rcases HCS.out with ⟨hc1, hc2, hc3⟩ | hc1
                  all_goals
                    go_wp2_with (first | (go_at_call 30; refine (columbariumref1_Get.calls k1 _ _ l0 x1 t1 t2 0 _ HRw.out hc0 HA1.out).mono ?_; rintro e w' ⟨rfl, ⟨nd, rfl⟩⟩) | (go_at_call 43; refine (columbariumref3_Unpack.calls k1 _ _ P (8 * (t1 / 2)) a3 X 0 _ (Kd.C_drewN HRP.out nd) hC9 (by rw [HP.out]; exact HA6.out)).mono ?_; rintro e w7 ⟨v7, rfl, ho7, hb7⟩; obtain ⟨A7, c7, e7⟩ := Kd.R_slice ho7; subst e7; have HB7 := Aside0.mk (below_step (pw_below_drewN HB.out nd) hb7); have HO7 := Aside0.mk (Kd.R_below (Kd.R_drewN HO.out nd) hb7); have HX7 := Aside0.mk (Kd.R_lower (Kd.R_mono (Kd.R_bound ho7) (ok' := fun k => some k ≠ (Value.slice Ao out.length co).ownBlock) (fun k hk he => by have h1 := hgl.out k he.symm; have h2 : wr.heap.size ≤ k := hk.2.1; omega)) (Nat.le_trans HB.out.size (Nat.le_refl _))); clear ho7 hb7))
                    try simp only [Act.put, List.setIfInBounds_toArray, List.set_cons_zero, List.set_cons_succ]
                    go_loopg [11, 23] X.length (fun kq v11 v23 w' => ∃ (x23 : Int), v23 = .int .i64 x23 ∧ Aside0 (0 ≤ x23 ∧ x23 + kq = X.length) ∧ Aside0 (∃ Y, Y = (out ++ X.take x23.toNat).take a2.toNat ∧ ((out ++ X.take x23.toNat).drop a2.toNat).any (fun x => x != 0) = false ∧ Kd.R (Kd.int .u64) 53 w' w.heap.size (fun _ => True) v11 Y ∧ Kd.R (Kd.int .u64) 53 w' w.heap.size (fun k => some k ≠ v11.ownBlock) (.slice A7 X.length c7) X) ∧ Aside0 (Below w.heap.size w w'))
                    case atStart => exact ⟨0, rfl, ⟨by omega⟩, ⟨out, by simp [List.take_of_length_le (show out.length ≤ a2.toNat by omega)], by simp [List.drop_eq_nil_of_le (show out.length ≤ a2.toNat by omega)], HO7.out, HX7.out⟩, HB7⟩
                    case round =>
                      clear HO HB HO7 HX7 HB7
                      obtain ⟨x23, rfl, HX, HY, HB⟩ := hrel
                      obtain ⟨Y, hY0, hY1, hO0, hX0⟩ := HY.out
                      have HYe := Aside0.mk hY0
                      have HYa := Aside0.mk hY1
                      have HO := Aside0.mk hO0
                      have HXr := Aside0.mk hX0
                      clear HY hY0 hY1 hO0 hX0
                      have hx0 := HX.out.1
                      have hxe := HX.out.2
                      have HXL := Aside0.mk ((Kd.reads_of_C (d := (0 : Int)) (Kd.R_reads' HXr.out).2.2).2.1)
                      have hYl : Y.length = min a2.toNat (out.length + min x23.toNat X.length) := by rw [HYe.out, List.length_take, List.length_append, List.length_take]
                      have HYl := Aside0.mk hYl
                      clear hYl
                      cases gk with
                      | zero =>
                        have hd : decide (x23 < (X.length : Int)) = false := decide_eq_false (by omega)
                        have hxn : x23.toNat = X.length := by omega
                        have hYe := HYe.out
                        have hYa := HYa.out
                        rw [hxn, List.take_length] at hYe hYa
                        have A2 := HA2.out
                        rw [if_neg (by rw [hYa]; decide)] at A2
                        injection Option.some.inj A2 with A3 A4
                        injection A4 with A4 A5
                        have H := HH.out
                        rw [if_pos A3.symm, ← A4, ← A5, ← hYe] at H
                        have HF := Aside0.mk H
                        clear A2 A3 A4 A5 H hYe hYa hxn hxe
                        go_wp2
                        go_roundg k1
                        case measure => have := HK.out; omega
                        case rel => exact ⟨_, Y, congrArg (Value.int .i64) (by first | rw [HSZ.out] | rfl), HF, ⟨by have := HK.out; omega⟩, HO, HB⟩
                      | succ k2 =>
                        have hd : decide (x23 < (X.length : Int)) = true := decide_eq_true (by omega)
                        have hx23 : x23 < 9223372036854775807 := by have := HXL.out; omega
                        obtain ⟨ad, e2, hx⟩ := Kd.at_int (Kd.R_reads' HXr.out).2.2 x23 hx0 (by omega)
                        cases e2
                        have p1 : (0 ≤ x23) = True := eq_true hx0
                        have p2 : (x23 < (X.length : Int)) = True := eq_true (by omega)
                        have HXE := Aside0.mk hxe
                        clear hxe
                        obtain ⟨Ao2, co2, eo2⟩ := Kd.R_slice HO.out
                        subst eo2
                        by_cases f1 : (Y.length : Int) < a2
                        · have f1b : decide ((Y.length : Int) < a2) = true := decide_eq_true f1
                          have HLY := Aside0.mk (show (Y.length : Int) < 1048577 by omega)
                          obtain ⟨Y2, hY2⟩ : ∃ Y2, Y2 = Y ++ [rd X x23] := ⟨_, rfl⟩
                          have HY2 := Aside0.mk hY2
                          clear hY2
                          go_wp2_with (first | ((with_reducible refine gate_builtin (b := .append) (xs := #[.tmp 175, .tmp 180]) rfl ?_); at_builtin; refine Kd.R_append (Kd.int .u64) (w0 := w) w.heap.size rfl (.tmp 175) (.tmp 180) 52 53 (.int .u64 0) 8 rfl Try.underlying52 info53 rfl (by decide) (by omega) _ Y (rd X x23) [.int .u64 (rd X x23)] (fun _ => True) (fun _ => False) rfl rfl ?aP (fun _ hk => hk.elim) ?aF ?aO ?aB ?aS ?aL ?_; (case aP => exact rfl); (case aB => exact HB.out); (case aF => exact fun _ _ => trivial); (case aO => exact HO.out); (case aS => exact HB.out.size); (case aL => have := HLY.out; omega); intro v9 w9 ho9 hb9 hg9 hat9; rw [← HY2.out] at ho9; have HX9 := Aside0.mk (ref5_apart HXr.out hg9 hat9); have HO9 := Aside0.mk ho9; have HB9 := Aside0.mk hb9; clear ho9 hb9 hg9 hat9))
                          go_roundg k2
                          case measure => omega
                          case rel =>
                            have hxe := HXE.out
                            have hl := ref5_less out X a2.toNat x23 (fun x => x != 0) hx0 (by omega) (by rw [← HYe.out]; omega)
                            exact ⟨x23 + 1, rfl, ⟨by omega⟩, ⟨Y2, by rw [hl.1, HY2.out, HYe.out], hl.2, HO9.out, HX9.out⟩, HB9⟩
                        · have f1b : decide ((Y.length : Int) < a2) = false := decide_eq_false f1
                          by_cases f2 : rd X x23 = 0
                          · have f2b : (rd X x23 != 0) = false := bne_eq_false_iff_eq.mpr f2
                            go_wp2
                            go_roundg k2
                            case measure => omega
                            case rel =>
                              have hxe := HXE.out
                              have hl := ref5_full out X a2.toNat x23 (fun x => x != 0) hx0 (by omega) (by rw [← HYe.out]; omega)
                              exact ⟨x23 + 1, rfl, ⟨by omega⟩, ⟨Y, by rw [hl.1, HYe.out], by rw [hl.2.1, HYa.out, f2b]; rfl, HO.out, HXr.out⟩, HB⟩
                          · have f2b : (rd X x23 != 0) = true := bne_iff_ne.mpr f2
                            have A2 := HA2.out
                            have hany : ((out ++ X).drop a2.toNat).any (fun x => x != 0) = true :=
                              (ref5_full out X a2.toNat x23 (fun x => x != 0) hx0 (by have hxe := HXE.out; omega) (by rw [← HYe.out]; omega)).2.2 f2b
                            rw [if_pos hany] at A2
                            injection Option.some.inj A2 with A3 A4
                            subst A3
                            have H := HH.out
                            rw [if_neg (by decide)] at H
                            simp only [Option.some.injEq, Prod.mk.injEq] at H
                            obtain ⟨rfl, rfl, rfl⟩ := H
                            clear A2 A4
                            go_wp2
                            go_ret3
                            exact ⟨_, rfl, Kd.R_nil _ _ _ _ _, HB.out⟩
                · rw [if_neg e5] at A2
                  injection Option.some.inj A2 with A3 A4
                  subst A3
                  rw [if_neg (by decide)] at H
                  simp only [Option.some.injEq, Prod.mk.injEq] at H
                  obtain ⟨rfl, rfl, rfl⟩ := H
                  have e5b : (t5 != 0) = true := bne_iff_ne.mpr e5
                  clear A2 A4
                  rcases HCS.out with ⟨hc1, hc2, hc3⟩ | hc1
                  all_goals
                    go_wp2_with (first | (go_at_call 30; refine (columbariumref1_Get.calls k1 _ _ l0 x1 t1 t2 0 _ HRw.out hc0 HA1.out).mono ?_; rintro e w' ⟨rfl, ⟨nd, rfl⟩⟩) | (go_at_call 43; refine (columbariumref3_Unpack.calls k1 _ _ P (8 * (t1 / 2)) a3 X t5 _ (Kd.C_drewN HRP.out nd) hC9 (by rw [HP.out]; exact HA6.out)).mono ?_; rintro e w7 ⟨v7, rfl, ho7, hb7⟩; obtain ⟨A7, c7, e7⟩ := Kd.R_slice ho7; subst e7; have HB7 := Aside0.mk (below_step (pw_below_drewN HB.out nd) hb7); have HO7 := Aside0.mk (Kd.R_below (Kd.R_drewN HO.out nd) hb7); have HX7 := Aside0.mk (Kd.R_lower (Kd.R_mono (Kd.R_bound ho7) (ok' := fun k => some k ≠ (Value.slice Ao out.length co).ownBlock) (fun k hk he => by have h1 := hgl.out k he.symm; have h2 : wr.heap.size ≤ k := hk.2.1; omega)) (Nat.le_trans HB.out.size (Nat.le_refl _))); clear ho7 hb7))
                    go_ret3
                    exact ⟨_, rfl, Kd.R_nil _ _ _ _ _, HB7.out⟩
        · rw [if_neg d2] at H
          simp only [Option.some.injEq, Prod.mk.injEq] at H
          obtain ⟨rfl, rfl, rfl⟩ := H
          have d2b : (t3 != 0) = true := bne_iff_ne.mpr d2
          go_wp2_with (go_at_call 30; refine (columbariumref1_Get.calls k1 _ _ l0 x1 t1 t2 t3 _ HRw.out hc0 HA1.out).mono ?_; rintro e w' ⟨rfl, ⟨nd, rfl⟩⟩)
          go_ret3
          exact ⟨_, rfl, Kd.R_nil _ _ _ _ _, pw_below_drewN HB.out _⟩
      · rw [if_neg d1] at H
        have d1b : decide ((out.length : Int) < a2) = false := decide_eq_false d1
        unfold columbariumref5_Decode.last at H
        obtain ⟨⟨t4, t5⟩, A4, H⟩ := Option.bind_eq_some_iff.mp H
        have HA4 := Aside0.mk A4
        have HRo := Aside0.mk (Kd.R_reads' HO.out).2.2
        have HCo := Aside0.mk (Kd.R_reads' HO.out).2.1
        clear A4
        simp only at H
        by_cases e1 : t5 = 0
        · subst e1
          rw [if_pos rfl] at H
          by_cases e2 : a1 ≤ x1 ∧ x1 ≤ (l0.length : Int)
          case neg => rw [if_neg e2] at H; cases H
          rw [if_pos e2] at H
          obtain ⟨e2a, e2b⟩ := e2
          have HM := print_mid_of (P := Try.prog) (Value.int .u8) 0 38 5 .i64 .i64 Try.underlying38 (info_parts info5).choose_spec.1 (info_parts info5).choose_spec.2.2.1 A0 c0 l0 a1 x1 p0_ e2a e2b hc0
          obtain ⟨M, hM⟩ : ∃ M, M = (l0.take x1.toNat).drop a1.toNat := ⟨_, rfl⟩
          rw [← hM] at HM H
          clear hM
          obtain ⟨Am, hcutm, hAm, hCm⟩ := HM
          by_cases e3 : (strOfNums t4).toList = (strOfNums M).toList
          · have e3a : ((strOfNums t4).toList == (strOfNums M).toList) = true := beq_iff_eq.mpr e3
            have e3b : ((strOfNums t4).toList != (strOfNums M).toList) = false := bne_eq_false_iff_eq.mpr e3
            rw [if_pos e3] at H
            simp only [Option.some.injEq, Prod.mk.injEq] at H
            obtain ⟨rfl, rfl, rfl⟩ := H
            clear e3
            go_wp2_with (go_at_call 26; refine (columbariumref5_Encode.calls k1 _ _ out a3 t4 0 _ HRo.out HCo.out HA4.out).mono ?_; rintro e w8 ⟨v8, rfl, ho8, hb8⟩; have hcv8 := fun n_ => own_string (P := Try.prog) Try.underlying38 Try.underlying5 Try.underlying9 (Kd.own_of_R (Kd.R_drewN ho8 n_)); have hcv9 := fun n_ => Kd.C_string (P := Try.prog) (A := Am) (c := (c0 - a1.toNat)) Try.underlying38 Try.underlying5 Try.underlying9 (Kd.C_drewN (Kd.C_of_reads (h1 := fun _ => rfl) (hAm w8 (Kd.reads_of_C (Kd.C_below HR0.out (below_step HB.out hb8))))) n_); have HO8 := Aside0.mk (Kd.R_below HO.out hb8); have HB8 := Aside0.mk (below_step HB.out hb8); clear ho8 hb8)
            go_quiet (fail)
            go_wp2
            go_ret3
            exact ⟨_, rfl, Kd.R_drewN HO8.out _, pw_below_drewN HB8.out _⟩
          · have e3a : ((strOfNums t4).toList == (strOfNums M).toList) = false := beq_eq_false_iff_ne.mpr e3
            have e3b : ((strOfNums t4).toList != (strOfNums M).toList) = true := bne_iff_ne.mpr e3
            rw [if_neg e3] at H
            simp only [Option.some.injEq, Prod.mk.injEq] at H
            obtain ⟨rfl, rfl, rfl⟩ := H
            clear e3
            go_wp2_with (go_at_call 26; refine (columbariumref5_Encode.calls k1 _ _ out a3 t4 0 _ HRo.out HCo.out HA4.out).mono ?_; rintro e w8 ⟨v8, rfl, ho8, hb8⟩; have hcv8 := fun n_ => own_string (P := Try.prog) Try.underlying38 Try.underlying5 Try.underlying9 (Kd.own_of_R (Kd.R_drewN ho8 n_)); have hcv9 := fun n_ => Kd.C_string (P := Try.prog) (A := Am) (c := (c0 - a1.toNat)) Try.underlying38 Try.underlying5 Try.underlying9 (Kd.C_drewN (Kd.C_of_reads (h1 := fun _ => rfl) (hAm w8 (Kd.reads_of_C (Kd.C_below HR0.out (below_step HB.out hb8))))) n_); have HO8 := Aside0.mk (Kd.R_below HO.out hb8); have HB8 := Aside0.mk (below_step HB.out hb8); clear ho8 hb8)
            go_quiet (fail)
            go_wp2
            go_ret3
            exact ⟨_, rfl, Kd.R_nil _ _ _ _ _, pw_below_drewN HB8.out _⟩
        · rw [if_neg e1] at H
          simp only [Option.some.injEq, Prod.mk.injEq] at H
          obtain ⟨rfl, rfl, rfl⟩ := H
          have e1b : (t5 != 0) = true := bne_iff_ne.mpr e1
          go_wp2_with (go_at_call 26; refine (columbariumref5_Encode.calls k1 _ _ out a3 t4 t5 _ HRo.out HCo.out HA4.out).mono ?_; rintro e w8 ⟨v8, rfl, ho8, hb8⟩; have HB8 := Aside0.mk (below_step HB.out hb8); clear ho8 hb8)
          go_quiet (fail)
          go_wp2
          go_ret3
          exact ⟨_, rfl, Kd.R_nil _ _ _ _ _, pw_below_drewN HB8.out _⟩

/-! ### columbariumref11_Decode: function 21 -/
def columbariumref11_Decode.l0 : Nat → Int → List Int → List Bool → Int → Option (List Bool × Int × Int)
  | 0, _, _, _, _ => none
  | k + 1, x8, x10, x11, x12 => if x12 < (x10.length : Int) then (if 0 ≤ x12 then (if x11.length < 140737488355328 then (columbariumref11_Decode.l0 k x8 x10 (x11 ++ [((rd x10 x12) == 1)]) (wrap64 (x12 + 1))) else (none)) else (none)) else (some (x11, x8, 0))
def columbariumref11_Decode.f (k : Nat) (l0 : List Int) (a1 : Int) : Option (List Bool × Int × Int) := (columbariumref1_Get.f k l0 a1).bind fun bt307 => (if bt307.2.2 = 0 then (if bt307.1 > 1048576 then (some (([] : List Bool), 0, 4)) else ((columbariumref5_Decode.f k l0 bt307.2.1 (wrap64 (bt307.1)) 1).bind fun bt310 => (if bt310.2.2 = 0 then (columbariumref11_Decode.l0 k bt310.2.1 bt310.1 ([] : List Bool) 0) else (some (([] : List Bool), 0, bt310.2.2))))) else (some (([] : List Bool), 0, bt307.2.2)))
theorem columbariumref11_Decode.mono_l : ∀ k, (∀ y0 y1 y2 y3, LeO (columbariumref11_Decode.l0 k y0 y1 y2 y3) (columbariumref11_Decode.l0 (k + 1) y0 y1 y2 y3))
  | 0 => fun _ _ _ _ r h => by simp [columbariumref11_Decode.l0] at h
  | k + 1 => by
    have ih0 := columbariumref11_Decode.mono_l k
    · intro y0 y1 y2 y3
      unfold columbariumref11_Decode.l0
      repeat' first
      | (with_reducible exact ih0 _ _ _ _)
      | (with_reducible exact columbariumref1_Get.mono _ _ _)
      | (with_reducible exact columbariumref5_Decode.mono _ _ _ _ _)
      | (with_reducible exact LeO.refl _)
      | (with_reducible exact LeO.none _)
      | (with_reducible refine LeO.ite ?_ ?_)
      | (with_reducible refine LeO.bind ?_ (fun _ => ?_))
      | exact ih0 _ _ _ _
      | exact columbariumref1_Get.mono _ _ _
      | exact columbariumref5_Decode.mono _ _ _ _ _
      | exact LeO.none _
      | refine LeO.ite ?_ ?_
      | refine LeO.bind ?_ (fun _ => ?_)
theorem columbariumref11_Decode.mono : ∀ a0 a1 k, LeO (columbariumref11_Decode.f k a0 a1) (columbariumref11_Decode.f (k + 1) a0 a1) := by
  intro a0 a1 k
  have ih0 := columbariumref11_Decode.mono_l k
  unfold columbariumref11_Decode.f
  repeat' first
      | (with_reducible exact ih0 _ _ _ _)
      | (with_reducible exact columbariumref1_Get.mono _ _ _)
      | (with_reducible exact columbariumref5_Decode.mono _ _ _ _ _)
      | (with_reducible exact LeO.refl _)
      | (with_reducible exact LeO.none _)
      | (with_reducible refine LeO.ite ?_ ?_)
      | (with_reducible refine LeO.bind ?_ (fun _ => ?_))
      | exact ih0 _ _ _ _
      | exact columbariumref1_Get.mono _ _ _
      | exact columbariumref5_Decode.mono _ _ _ _ _
      | exact LeO.none _
      | refine LeO.ite ?_ ?_
      | refine LeO.bind ?_ (fun _ => ?_)
set_option maxHeartbeats 8000000 in
set_option maxRecDepth 100000 in
theorem columbariumref11_Decode.calls (k : Nat) (A0 : Option Addr) (c0 : Nat) (l0 : List Int) (a1 : Int) (r1 : List Bool) (r2 : Int) (r3 : Int) (w : World) (hr0 : Kd.C (Kd.int .u8) w A0 l0.length l0) (hc0 : l0.length ≤ c0) (h : columbariumref11_Decode.f k l0 a1 = some (r1, r2, r3)) :
    Calls Try.prog 21 #[.slice A0 l0.length c0, .int .i64 a1] w fun e w' => ∃ v0_ : Value, e = .returned (.tuple #[v0_, .int .i64 r2, .int .i64 r3]) ∧ Kd.R Kd.bool 4 w' w.heap.size (fun _ => True) v0_ r1 ∧ Below w.heap.size w w' := by
  have HR0 := Aside0.mk hr0
  have HC0 := Aside0.mk hc0
  clear hr0 hc0
  have HB := Aside0.mk (Below.refl w.heap.size w)
  have H : ((columbariumref1_Get.f k l0 a1).bind fun bt307 => (if bt307.2.2 = 0 then (if bt307.1 > 1048576 then (some (([] : List Bool), 0, 4)) else ((columbariumref5_Decode.f k l0 bt307.2.1 (wrap64 (bt307.1)) 1).bind fun bt310 => (if bt310.2.2 = 0 then (columbariumref11_Decode.l0 k bt310.2.1 bt310.1 ([] : List Bool) 0) else (some (([] : List Bool), 0, bt310.2.2))))) else (some (([] : List Bool), 0, bt307.2.2)))) = some (r1, r2, r3) := h
  clear h
  replace H := Option.bind_eq_some_iff.mp H
  obtain ⟨⟨t307, t308, t309⟩, A30, H⟩ := H
  replace H : (if t309 = 0 then (if t307 > 1048576 then (some (([] : List Bool), 0, 4)) else ((columbariumref5_Decode.f k l0 t308 (wrap64 (t307)) 1).bind fun bt310 => (if bt310.2.2 = 0 then (columbariumref11_Decode.l0 k bt310.2.1 bt310.1 ([] : List Bool) 0) else (some (([] : List Bool), 0, bt310.2.2))))) else (some (([] : List Bool), 0, t309))) = some (r1, r2, r3) := H
  have A3 := Aside0.mk A30
  clear A30
  by_cases c4 : t309 = 0
  · rw [if_pos c4] at H
    have c4b0 : (t309 == 0) = true := beq_iff_eq.mpr c4
    have c4b1 : (t309 != 0) = false := bne_eq_false_iff_eq.mpr c4
    clear c4
    by_cases c5 : t307 > 1048576
    · rw [if_pos c5] at H
      have c5b0 : decide (1048576 < t307) = true := decide_eq_true c5
      clear c5
      simp only [Option.some.injEq, Prod.mk.injEq] at H
      obtain ⟨rfl, rfl, rfl⟩ := H
      go_enter Try.func21, Try.ntmps21
      go_wp2_with (first | ((with_reducible refine gate_callee (f := 30) rfl ?_); refine goesL_ (some 16) rfl rfl Try.func30 (by kernel_rfl) rfl #[.slice A0 l0.length c0, .int .i64 a1] rfl (by (try simp only [List.map_toArray, List.map_cons, List.map_nil]); first | done | rfl | (simp only [List.length_drop, List.length_take]; rfl)) ?_; (with_reducible refine (columbariumref1_Get.calls k _ _ l0 a1 t307 t308 t309 _ ?side1 ?side2 A3.out).mono ?_); (case side1 => repeat (first | exact HR0.out | (with_reducible refine Kd.C_alloc ?_ _) | (with_reducible refine Kd.C_drewN ?_ _) | (with_reducible refine Kd.C_drew ?_))); (case side2 => first | exact HC0.out | exact Kd.V_mono HC0.out (fun k_ hk_ => by grind)); rintro e w' ⟨rfl, ⟨nd, rfl⟩⟩; refine ⟨_, rfl, ?_⟩))
      go_ret3
      exact ⟨_, by first | rfl | (simp [errW_none, errW_some] <;> rfl) | (simp [*, errW_none, errW_some] <;> rfl), by first | exact Kd.R_nil _ _ _ _ _ | exact Kd.N_nil _ _ _ _ _ | exact Kd.V_nil _ _ _ _ _ | exact Kd.Q_nil _ _ _ _ _ | exact Kd.S_nil _ _ _ _ _, by repeat (first | (with_reducible first | exact HB.out | apply below_alloc | apply pw_below_drewN | apply below_drew1) | exact HB.out)⟩
    · rw [if_neg c5] at H
      have c5b0 : decide (1048576 < t307) = false := decide_eq_false c5
      clear c5
      replace H := Option.bind_eq_some_iff.mp H
      obtain ⟨⟨t310, t311, t312⟩, A60, H⟩ := H
      replace H : (if t312 = 0 then (columbariumref11_Decode.l0 k t311 t310 ([] : List Bool) 0) else (some (([] : List Bool), 0, t312))) = some (r1, r2, r3) := H
      have A6 := Aside0.mk A60
      clear A60
      by_cases c7 : t312 = 0
      · rw [if_pos c7] at H
        have c7b0 : (t312 == 0) = true := beq_iff_eq.mpr c7
        have c7b1 : (t312 != 0) = false := bne_eq_false_iff_eq.mpr c7
        clear c7
        have H' := Aside0.mk H
        clear H
        go_enter Try.func21, Try.ntmps21
        go_wp2_with (first | ((with_reducible refine gate_callee (f := 30) rfl ?_); refine goesL_ (some 16) rfl rfl Try.func30 (by kernel_rfl) rfl #[.slice A0 l0.length c0, .int .i64 a1] rfl (by (try simp only [List.map_toArray, List.map_cons, List.map_nil]); first | done | rfl | (simp only [List.length_drop, List.length_take]; rfl)) ?_; (with_reducible refine (columbariumref1_Get.calls k _ _ l0 a1 t307 t308 t309 _ ?side1 ?side2 A3.out).mono ?_); (case side1 => repeat (first | exact HR0.out | (with_reducible refine Kd.C_alloc ?_ _) | (with_reducible refine Kd.C_drewN ?_ _) | (with_reducible refine Kd.C_drew ?_))); (case side2 => first | exact HC0.out | exact Kd.V_mono HC0.out (fun k_ hk_ => by grind)); rintro e w' ⟨rfl, ⟨nd, rfl⟩⟩; refine ⟨_, rfl, ?_⟩) | ((with_reducible refine gate_callee (f := 31) rfl ?_); refine goesL_ (some 30) rfl rfl Try.func31 (by kernel_rfl) rfl #[.slice A0 l0.length c0, .int .i64 t308, .int .i64 (wrap64 (t307)), .int .i64 1] rfl (by (try simp only [List.map_toArray, List.map_cons, List.map_nil]); first | done | rfl | (simp only [List.length_drop, List.length_take]; rfl)) ?_; (with_reducible refine (columbariumref5_Decode.calls k _ _ l0 t308 (wrap64 (t307)) 1 t310 t311 t312 _ ?side1 ?side2 A6.out).mono ?_); (case side1 => repeat (first | exact HR0.out | (with_reducible refine Kd.C_alloc ?_ _) | (with_reducible refine Kd.C_drewN ?_ _) | (with_reducible refine Kd.C_drew ?_))); (case side2 => first | exact HC0.out | exact Kd.V_mono HC0.out (fun k_ hk_ => by grind)); rintro e w8 ⟨v313, rfl, ho0, hb⟩; refine ⟨_, rfl, ?_⟩; have n0_ := Aside0.mk (Kd.R_lower ho0 (below_size (by repeat (first | (with_reducible first | exact HB.out | apply below_alloc | apply pw_below_drewN | apply below_drew1) | exact HB.out)))); have n1_ := Aside0.mk (below_step (by repeat (first | (with_reducible first | exact HB.out | apply below_alloc | apply pw_below_drewN | apply below_drew1) | exact HB.out)) hb); clear HB; have HO314 := n0_; have HB := n1_; clear n0_ n1_; (try clear hb); (try clear hb2); (try clear hk); (try clear hi); (try clear ho0)))
        try simp only [Act.put, List.setIfInBounds_toArray, List.set_cons_zero, List.set_cons_succ]
        go_loopg [11, 12] k (fun kq v11 v12 w' => ∃ (x11_1 : List Bool) (x12_1 : Int), v12 = .int .i64 x12_1 ∧ Aside0 (columbariumref11_Decode.l0 kq t311 t310 x11_1 x12_1 = some (r1, r2, r3)) ∧ Aside0 (kq ≤ k) ∧ Aside0 (Kd.R (Kd.int .u64) 53 w' w.heap.size (fun _ => True) v313 t310) ∧ Aside0 (Kd.R Kd.bool 4 w' w.heap.size (fun _ => True) v11 x11_1) ∧ Aside0 (Below w.heap.size w w'))
        case atStart => exact ⟨(([] : List Bool)), (0), (by first | rfl | (simp; done) | (simp [*]; done)), H', ⟨Nat.le_refl _⟩, ⟨by (with_reducible repeat (first | apply Kd.R_alloc | apply Kd.R_drewN | apply Kd.R_drew)); exact HO314.out⟩, ⟨by first | exact Kd.R_nil _ _ _ _ _ | exact Kd.N_nil _ _ _ _ _ | exact Kd.V_nil _ _ _ _ _ | exact Kd.Q_nil _ _ _ _ _ | exact Kd.S_nil _ _ _ _ _⟩, ⟨by repeat (first | (with_reducible first | exact HB.out | apply below_alloc | apply pw_below_drewN | apply below_drew1) | exact HB.out)⟩⟩
        case round =>
          clear H'
          try clear c2
          try clear p2
          try clear c3
          try clear c4
          try clear c4b0
          try clear c4b1
          try clear c5
          try clear c5b0
          try clear p6
          try clear c7
          try clear c7b0
          try clear c7b1
          obtain ⟨x11_1, x12_1, rfl, HA, HK1, HO_10, HO_11, HB⟩ := hrel
          cases gk with
          | zero => exact absurd HA.out (by simp [columbariumref11_Decode.l0])
          | succ k1 =>
            have H := HA.out
            clear HA
            simp only [columbariumref11_Decode.l0] at H
            by_cases c9 : x12_1 < (t310.length : Int)
            · rw [if_pos c9] at H
              have c9b0 : decide (x12_1 < (t310.length : Int)) = true := decide_eq_true c9
              clear c9
              by_cases c10 : 0 ≤ x12_1
              · rw [if_pos c10] at H
                have c10b0 : decide (0 ≤ x12_1) = true := decide_eq_true c10
                clear c10
                by_cases c11 : x11_1.length < 140737488355328
                · rw [if_pos c11] at H
                  have LMc11 := Aside0.mk c11
                  clear c11
                  obtain ⟨y316, hy316⟩ : ∃ y_ : List Bool, y_ = (x11_1 ++ [((rd t310 x12_1) == 1)]) := ⟨_, rfl⟩
                  replace H : (columbariumref11_Decode.l0 k1 t311 t310 y316 (wrap64 (x12_1 + 1))) = some (r1, r2, r3) := by first | (rw [hy316]; with_reducible exact H) | (have H2_ := (Option.bind_some _ _).symm.trans H; rw [hy316]; with_reducible exact H2_) | (have H2_ := (Option.bind_some _ _).symm.trans H; with_reducible exact H2_) | with_reducible exact H | (rw [hy316]; exact H) | exact H
                  have Ny316 := Aside0.mk hy316
                  clear hy316
                  have H' := Aside0.mk H
                  clear H
                  obtain ⟨Ao12, co12, eo12⟩ := Kd.R_slice HO_10.out
                  subst eo12
                  have p315 : 0 ≤ (x12_1 : Int) := of_decide_eq_true (by first | (with_reducible assumption) | assumption)
                  have q315 : x12_1 < (t310.length : Int) := of_decide_eq_true (by first | (with_reducible assumption) | assumption)
                  obtain ⟨ad315, e315, hx315_0⟩ := Kd.at_int (Kd.R_reads' HO_10.out).2.2 x12_1 p315 q315
                  cases e315
                  replace p315 := eq_true p315
                  replace q315 := eq_true q315
                  go_wp2_with (first | ((with_reducible refine gate_builtin (b := .append) (xs := #[.tmp 43, .tmp 49]) rfl ?_); at_builtin; refine Kd.R_append Kd.bool (w0 := w) w.heap.size rfl (.tmp 43) (.tmp 49) 34 4 (.bool false) 1 rfl Try.underlying34 info4 rfl (by decide) (by omega) u11 x11_1 ((rd t310 x12_1) == 1) [.bool ((rd t310 x12_1) == 1)] (fun _ => True) (fun _ => False) rfl rfl ?aP (fun _ hk => hk.elim) ?aF ?aO ?aB ?aS ?aL ?_; (case aP => exact rfl); (case aB => exact (by repeat (first | (with_reducible first | exact HB.out | apply below_alloc | apply pw_below_drewN | apply below_drew1) | exact HB.out))); (case aF => exact (fun _ _ => trivial)); (case aO => exact (by (with_reducible repeat (first | apply Kd.R_alloc | apply Kd.R_drewN | apply Kd.R_drew)); exact HO_11.out)); (case aS => exact (below_size (by repeat (first | (with_reducible first | exact HB.out | apply below_alloc | apply pw_below_drewN | apply below_drew1) | exact HB.out)))); (case aL => have := LMc11.out; omega); intro v317 w13 ho hb hg hat; rw [← Ny316.out] at ho; have n0_ := Aside0.mk (Kd.R_over' (by (with_reducible repeat (first | apply Kd.R_alloc | apply Kd.R_drewN | apply Kd.R_drew)); exact HO_10.out) (Kd.R_typed (by (with_reducible repeat (first | apply Kd.R_alloc | apply Kd.R_drewN | apply Kd.R_drew)); exact HO_11.out)) (by decide) hg); have n1_ := Aside0.mk (hb); have n2_ := Aside0.mk (ho); clear HO_10; clear HB; clear HO_11; have HO_10 := n0_; have HB := n1_; have HO318 := n2_; clear n0_ n1_ n2_; clear ho hb hg hat))
                  go_roundg k1
                  case measure => have := HK1.out; omega
                  case rel => exact ⟨(y316), (wrap64 (x12_1 + 1)), (by first | rfl | (simp; done) | (simp [*]; done)), H', ⟨by have := HK1.out; omega⟩, ⟨by (with_reducible repeat (first | apply Kd.R_alloc | apply Kd.R_drewN | apply Kd.R_drew)); exact HO_10.out⟩, ⟨by (with_reducible repeat (first | apply Kd.R_alloc | apply Kd.R_drewN | apply Kd.R_drew)); exact HO318.out⟩, ⟨by repeat (first | (with_reducible first | exact HB.out | apply below_alloc | apply pw_below_drewN | apply below_drew1) | exact HB.out)⟩⟩
                · rw [if_neg c11] at H
                  exact absurd H (by simp)
              · rw [if_neg c10] at H
                exact absurd H (by simp)
            · rw [if_neg c9] at H
              have c9b0 : decide (x12_1 < (t310.length : Int)) = false := decide_eq_false c9
              clear c9
              simp only [Option.some.injEq, Prod.mk.injEq] at H
              obtain ⟨rfl, rfl, rfl⟩ := H
              obtain ⟨Ao14, co14, eo14⟩ := Kd.R_slice HO_10.out
              subst eo14
              go_wp2
              go_ret3
              exact ⟨_, by first | rfl | (simp [errW_none, errW_some] <;> rfl) | (simp [*, errW_none, errW_some] <;> rfl), by (with_reducible repeat (first | apply Kd.R_alloc | apply Kd.R_drewN | apply Kd.R_drew)); exact HO_11.out, by repeat (first | (with_reducible first | exact HB.out | apply below_alloc | apply pw_below_drewN | apply below_drew1) | exact HB.out)⟩
      · rw [if_neg c7] at H
        have c7b0 : (t312 == 0) = false := beq_eq_false_iff_ne.mpr c7
        have c7b1 : (t312 != 0) = true := bne_iff_ne.mpr c7
        simp only [Option.some.injEq, Prod.mk.injEq] at H
        obtain ⟨rfl, rfl, rfl⟩ := H
        go_enter Try.func21, Try.ntmps21
        go_wp2_with (first | ((with_reducible refine gate_callee (f := 30) rfl ?_); refine goesL_ (some 16) rfl rfl Try.func30 (by kernel_rfl) rfl #[.slice A0 l0.length c0, .int .i64 a1] rfl (by (try simp only [List.map_toArray, List.map_cons, List.map_nil]); first | done | rfl | (simp only [List.length_drop, List.length_take]; rfl)) ?_; (with_reducible refine (columbariumref1_Get.calls k _ _ l0 a1 t307 t308 t309 _ ?side1 ?side2 A3.out).mono ?_); (case side1 => repeat (first | exact HR0.out | (with_reducible refine Kd.C_alloc ?_ _) | (with_reducible refine Kd.C_drewN ?_ _) | (with_reducible refine Kd.C_drew ?_))); (case side2 => first | exact HC0.out | exact Kd.V_mono HC0.out (fun k_ hk_ => by grind)); rintro e w' ⟨rfl, ⟨nd, rfl⟩⟩; refine ⟨_, rfl, ?_⟩) | ((with_reducible refine gate_callee (f := 31) rfl ?_); refine goesL_ (some 30) rfl rfl Try.func31 (by kernel_rfl) rfl #[.slice A0 l0.length c0, .int .i64 t308, .int .i64 (wrap64 (t307)), .int .i64 1] rfl (by (try simp only [List.map_toArray, List.map_cons, List.map_nil]); first | done | rfl | (simp only [List.length_drop, List.length_take]; rfl)) ?_; (with_reducible refine (columbariumref5_Decode.calls k _ _ l0 t308 (wrap64 (t307)) 1 t310 t311 t312 _ ?side1 ?side2 A6.out).mono ?_); (case side1 => repeat (first | exact HR0.out | (with_reducible refine Kd.C_alloc ?_ _) | (with_reducible refine Kd.C_drewN ?_ _) | (with_reducible refine Kd.C_drew ?_))); (case side2 => first | exact HC0.out | exact Kd.V_mono HC0.out (fun k_ hk_ => by grind)); rintro e w15 ⟨v313, rfl, ho0, hb⟩; refine ⟨_, rfl, ?_⟩; have n0_ := Aside0.mk (Kd.R_lower ho0 (below_size (by repeat (first | (with_reducible first | exact HB.out | apply below_alloc | apply pw_below_drewN | apply below_drew1) | exact HB.out)))); have n1_ := Aside0.mk (below_step (by repeat (first | (with_reducible first | exact HB.out | apply below_alloc | apply pw_below_drewN | apply below_drew1) | exact HB.out)) hb); clear HB; have HO314 := n0_; have HB := n1_; clear n0_ n1_; (try clear hb); (try clear hb2); (try clear hk); (try clear hi); (try clear ho0)))
        go_ret3
        exact ⟨_, by first | rfl | (simp [errW_none, errW_some] <;> rfl) | (simp [*, errW_none, errW_some] <;> rfl), by first | exact Kd.R_nil _ _ _ _ _ | exact Kd.N_nil _ _ _ _ _ | exact Kd.V_nil _ _ _ _ _ | exact Kd.Q_nil _ _ _ _ _ | exact Kd.S_nil _ _ _ _ _, by repeat (first | (with_reducible first | exact HB.out | apply below_alloc | apply pw_below_drewN | apply below_drew1) | exact HB.out)⟩
  · rw [if_neg c4] at H
    have c4b0 : (t309 == 0) = false := beq_eq_false_iff_ne.mpr c4
    have c4b1 : (t309 != 0) = true := bne_iff_ne.mpr c4
    simp only [Option.some.injEq, Prod.mk.injEq] at H
    obtain ⟨rfl, rfl, rfl⟩ := H
    go_enter Try.func21, Try.ntmps21
    go_wp2_with (first | ((with_reducible refine gate_callee (f := 30) rfl ?_); refine goesL_ (some 16) rfl rfl Try.func30 (by kernel_rfl) rfl #[.slice A0 l0.length c0, .int .i64 a1] rfl (by (try simp only [List.map_toArray, List.map_cons, List.map_nil]); first | done | rfl | (simp only [List.length_drop, List.length_take]; rfl)) ?_; (with_reducible refine (columbariumref1_Get.calls k _ _ l0 a1 t307 t308 t309 _ ?side1 ?side2 A3.out).mono ?_); (case side1 => repeat (first | exact HR0.out | (with_reducible refine Kd.C_alloc ?_ _) | (with_reducible refine Kd.C_drewN ?_ _) | (with_reducible refine Kd.C_drew ?_))); (case side2 => first | exact HC0.out | exact Kd.V_mono HC0.out (fun k_ hk_ => by grind)); rintro e w' ⟨rfl, ⟨nd, rfl⟩⟩; refine ⟨_, rfl, ?_⟩))
    go_ret3
    exact ⟨_, by first | rfl | (simp [errW_none, errW_some] <;> rfl) | (simp [*, errW_none, errW_some] <;> rfl), by first | exact Kd.R_nil _ _ _ _ _ | exact Kd.N_nil _ _ _ _ _ | exact Kd.V_nil _ _ _ _ _ | exact Kd.Q_nil _ _ _ _ _ | exact Kd.S_nil _ _ _ _ _, by repeat (first | (with_reducible first | exact HB.out | apply below_alloc | apply pw_below_drewN | apply below_drew1) | exact HB.out)⟩

-- NOT PRINTED: function 5 (columbariumlaw11_DelsReads)

end Go.Proofs.Ytodadonpfcefbaa.QDelsReads
