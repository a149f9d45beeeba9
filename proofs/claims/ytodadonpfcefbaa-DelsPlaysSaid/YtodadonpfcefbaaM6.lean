/- DelsParts: the walk. -/
import Derived.Test.YtodadonpfcefbaaM5
namespace Go.Proofs.Ytodadonpfcefbaa.Marks
open Go.RowKit Go.Proofs.YtodadonpfcefbaaW.PrintWords Go.Proofs.YtodadonpfcefbaaW.PrintLast Go.Proofs.YtodadonpfcefbaaW.PrintMore Go.Proofs.Ytodadonpfcefbaa.QDelsReads Go.Proofs.Ytodadonpfcefbaa.Base
attribute [local go_sem] max2_int min2_int max_two min_two max_three min_three max_four min_four
set_option linter.unusedVariables false
set_option linter.unusedSimpArgs false
theorem grown_below {W w w' : World} {b : Nat} (h : Below W.heap.size W w) (hb : W.heap.size ≤ b) (hg : w.grownBy w' (some b)) : Below W.heap.size W w' :=
  Below.grown h hg h.size (fun k hk => by injection hk with hk; rw [← hk]; exact hb)
set_option maxHeartbeats 8000000 in
set_option maxRecDepth 100000 in
theorem partsC (a0 : Int) (A1 : Option Addr) (c1 : Nat) (l : List Int) (W : World) (hr1 : Kd.C (Kd.int .i64) W A1 l.length l) (hc1 : l.length ≤ c1) : Calls Try.prog 3 #[.int .i64 a0, .slice A1 l.length c1] W fun e w' => e = .returned (.bool true) ∧ Below W.heap.size W w' := by
  obtain ⟨N, hN, hwi⟩ := within_some a0 300 (by decide)
  have HN := Aside0.mk hN
  have HR := Aside0.mk hr1
  clear hr1 hc1 hN
  go_enter Try.func3, Try.ntmps3
  go_wp2_with (first
    | (go_at_call 8; refine (columbariumbook_Within.calls a0 0 300 _ _ hwi).mono ?_; rintro e w1 ⟨rfl, hd⟩; have HB1 := Aside0.mk hd.below; clear hd)
    | (go_at_call 9; refine (newC N _ (Nat.le_trans HN.out (by decide))).mono ?_; rintro e w2 ⟨b, g, rfl, hm, hb, hB⟩; have HM2 := Aside0.mk hm; have Hb := Aside0.mk (Nat.le_trans HB1.out.size hb); have HB2 := Aside0.mk (below_step HB1.out hB); clear hm hb hB))
  go_loopg [7, 8] 101 (fun kq v7 v8 w' => ∃ (ls : List Bool) (i : Nat), v7 = .int .i64 (cntL ls) ∧ v8 = .int .i64 (i : Int) ∧ Aside0 (i + kq = 101 ∧ i ≤ 100 ∧ i ≤ l.length ∧ ls.length = N) ∧ Aside0 (MkL w' b g ls) ∧ Aside0 (Below W.heap.size W w'))
  case atStart => exact ⟨List.replicate N false, 0, by rw [cnt_new], rfl, ⟨by simp⟩, HM2, HB2⟩
  case round =>
    clear HM2 HB2
    obtain ⟨ls, i, rfl, rfl, HI, HM, HB⟩ := hrel
    cases gk with
    | zero => have := HI.out; omega
    | succ k1 =>
      obtain ⟨ji, hji⟩ : ∃ j : Int, (i : Int) = j := ⟨_, rfl⟩
      rw [hji]
      have hlenN : (ls.length : Int) = (N : Int) := by have := HI.out; omega
      by_cases cc : i < l.length ∧ i < 100
      · obtain ⟨c1, c2⟩ := cc
        have c1b : decide (ji < (l.length : Int)) = true := decide_eq_true (by omega)
        · have c2b : decide (ji < 100) = true := decide_eq_true (by omega)
          have p0 : 0 ≤ ji := by omega
          have p1 : ji < (l.length : Int) := by omega
          obtain ⟨ad, e1, hx⟩ := Kd.at_int HR.out ji p0 p1
          cases e1
          generalize rd l ji = x at hx
          have HX := Aside0.mk hx
          clear hx
          have hx0 := pw_cell_below HB.out HX.out
          have hfr0 := fresh_eq ls x
          have hin0 := has_set ls x
          have hcn0 := cnt_set ls x
          have hcr := cnt_range ls
          have hl2 := setL_length ls x
          rw [hlenN] at hfr0 hin0
          have hrel2 : Aside0 (i + 1 + k1 = 101 ∧ i + 1 ≤ 100 ∧ i + 1 ≤ l.length ∧ (setL ls x).length = N) := ⟨by have := HI.out; omega⟩
          generalize hls2 : setL ls x = ls2 at hin0 hcn0 hl2 hrel2
          generalize hwas : hasL ls x = was at hfr0
          generalize hp : decide (0 ≤ x) = p at hfr0 hin0
          generalize hq : decide (x < (N : Int)) = q at hfr0 hin0
          have hw' : IntKind.i64.wrap (ji + 1) = ((i + 1 : Nat) : Int) := by rw [IntKind.wrap_i64]; omega
          have hn1 : IntKind.i64.wrap (cntL ls + 1) = cntL ls + 1 := by have hk := hlenN; have hk2 := HN.out; rw [IntKind.wrap_i64]; omega
          generalize hn : cntL ls = n at hcn0 hn1 hcr
          generalize hn2 : cntL ls2 = n2 at hcn0
          clear hcr hl2 hlenN c1 c2 hji
          replace p0 := eq_true p0
          replace p1 := eq_true p1
          rw [hfr0] at hcn0
          cases p <;> cases q <;> cases was
          all_goals (simp only [Bool.and_true, Bool.true_and, Bool.and_false, Bool.false_and, Bool.not_true, Bool.not_false, Bool.false_eq_true, eq_self, if_true, if_false, Int.add_zero] at hfr0 hin0 hcn0)
          all_goals subst hcn0
          all_goals (
            go_wp2_with (first
              | (go_at_call 10; (with_reducible refine (hasR HM.out x hwas).mono ?_); rintro e w3 ⟨rfl, hb⟩; have HM3 := Aside0.mk (HM.out.below hb); have HB3 := Aside0.mk (below_step HB.out hb); have hx3 := pw_cell_below HB3.out HX.out; clear hb)
              | (go_at_call 11; (with_reducible refine (setR HM3.out x hfr0 hls2).mono ?_); rintro e w4 ⟨rfl, hm, hg⟩; have HM4 := Aside0.mk hm; have HB4 := Aside0.mk (grown_below HB3.out Hb.out hg); have hx4 := pw_cell_below HB4.out HX.out; clear hm hg)
              | (go_at_call 10; (with_reducible refine (hasR HM4.out x hin0).mono ?_); rintro e w5 ⟨rfl, hb⟩; have HM5 := Aside0.mk (HM4.out.below hb); have HB5 := Aside0.mk (below_step HB4.out hb); have hx5 := pw_cell_below HB5.out HX.out; clear hb)
              | (go_at_call 12; (with_reducible refine (countR HM5.out hn2).mono ?_); rintro e w6 ⟨rfl, hb⟩; have HM6 := Aside0.mk (HM5.out.below hb); have HB6 := Aside0.mk (below_step HB5.out hb); clear hb))
            go_roundg k1
            case measure => omega
            case rel => exact ⟨ls2, i + 1, by first | rfl | (rw [hn2]; done) | (simp [hn2, hn1]; done), by first | rfl | (rw [hw']; done) | (simp [hw']; done), hrel2, HM6, HB6⟩)
      · have hcc : decide (ji < (l.length : Int)) = false ∨ (decide (ji < (l.length : Int)) = true ∧ decide (ji < 100) = false) := by
          by_cases c1 : i < l.length
          · exact .inr ⟨decide_eq_true (by omega), decide_eq_false (by omega)⟩
          · exact .inl (decide_eq_false (by omega))
        have hll := left_len ls
        have hcr := cnt_range ls
        have hN := HN.out
        have hsum : IntKind.i64.wrap (((leftL ls).length : Int) + cntL ls) = (N : Int) := by rw [IntKind.wrap_i64]; omega
        obtain ⟨jN, hjN⟩ : ∃ j : Int, j = ((N + 1 : Nat) : Int) := ⟨_, rfl⟩
        have hw1 : IntKind.i64.wrap ((N : Int) + 1) = jN := by rw [IntKind.wrap_i64]; omega
        have hnew := fun w => newC (N + 1) w (by omega)
        rw [← hjN] at hnew
        have hlfl : (leftL ls).length ≤ N := by omega
        have hmem := fun (i : Nat) (y : Int) (h : (leftL ls)[i]? = some y) => left_has h
        have hrise := fun (i : Nat) (y z : Int) (h : (leftL ls)[i]? = some y) (k : (leftL ls)[i + 1]? = some z) => left_rise h k
        have hlc := leftC HM.out
        have hne : (List.replicate (N + 1) false).length ≠ ls.length := by rw [List.length_replicate]; have := HI.out; omega
        generalize leftL ls = lf at hsum hlfl hmem hrise hlc
        generalize hn : cntL ls = n at hsum
        clear hll hcr hN cc hjN
        rcases hcc with c1b | ⟨c1b, c2b⟩
        all_goals (
          go_wp2_with (first
            | (go_at_call 13; (with_reducible refine hlc.mono ?_); rintro e w3 ⟨v3, rfl, ho, hb⟩; have HM3 := Aside0.mk (HM.out.below hb); have HB3 := Aside0.mk (below_step HB.out hb); obtain ⟨A3, c3, e3⟩ := Kd.R_slice ho; subst e3; have HO3 := Aside0.mk (Kd.R_reads' ho).2.2; clear ho hb hlc))
          clear c1b hji
          try clear c2b
          go_loopg [13] (lf.length + 1) (fun kq v13 w' => ∃ i : Nat, v13 = .int .i64 (i : Int) ∧ Aside0 (i + kq = lf.length + 1 ∧ i ≤ lf.length) ∧ Aside0 (Below w3.heap.size w3 w'))
          case atStart => exact ⟨0, rfl, ⟨by omega, by omega⟩, ⟨Below.refl _ _⟩⟩
          case round =>
            obtain ⟨i2, rfl, HI2, HB5⟩ := hrel
            have HM5 := Aside0.mk (HM3.out.below HB5.out)
            have HB6 := Aside0.mk (below_step HB3.out HB5.out)
            cases gk with
            | zero => have := HI2.out; omega
            | succ k2 =>
              obtain ⟨ji2, hji2⟩ : ∃ j : Int, (i2 : Int) = j := ⟨_, rfl⟩
              rw [hji2]
              by_cases c : i2 < lf.length
              · have cb : decide (ji2 < (lf.length : Int)) = true := decide_eq_true (by omega)
                have p0 : 0 ≤ ji2 := by omega
                have p1 : ji2 < (lf.length : Int) := by omega
                obtain ⟨ad, e1, hx⟩ := Kd.at_int HO3.out ji2 p0 p1
                cases e1
                replace hx := pw_cell_below HB5.out hx
                have hti : ji2.toNat = i2 := by omega
                have hget : lf[i2]? = some (rd lf ji2) := by simp [rd, hti, c]
                have hh := hmem i2 _ hget
                have hw' : IntKind.i64.wrap (ji2 + 1) = ((i2 + 1 : Nat) : Int) := by have := HN.out; rw [IntKind.wrap_i64]; omega
                have hrel2 : Aside0 (i2 + 1 + k2 = lf.length + 1 ∧ i2 + 1 ≤ lf.length) := ⟨by have := HI2.out; omega⟩
                by_cases c0 : i2 = 0
                · have c0b : decide (0 < ji2) = false := decide_eq_false (by omega)
                  generalize rd lf ji2 = y at hx hh
                  clear hget hti c hji2 c0
                  replace p0 := eq_true p0
                  replace p1 := eq_true p1
                  go_upto_region 22 with (fail)
                  go_quiet ((go_at_call 10; exact hasQ HM5.out _ _ hh))
                  go_wp2
                  go_roundg k2
                  case measure => omega
                  case rel => exact ⟨i2 + 1, by first | rfl | (rw [hw']; done) | (simp [hw']; done), hrel2, ⟨by repeat (first | exact HB5.out | apply pw_below_drewN | apply Below.drew)⟩⟩
                · have c0b : decide (0 < ji2) = true := decide_eq_true (by omega)
                  obtain ⟨jp, hjp⟩ : ∃ j : Int, j = ji2 - 1 := ⟨_, rfl⟩
                  have hwp : IntKind.i64.wrap (ji2 - 1) = jp := by have := HN.out; rw [IntKind.wrap_i64]; omega
                  have q0 : 0 ≤ jp := by omega
                  have q1 : jp < (lf.length : Int) := by omega
                  obtain ⟨ad2, e2, hx2⟩ := Kd.at_int HO3.out jp q0 q1
                  cases e2
                  replace hx2 := pw_cell_below HB5.out hx2
                  have htp : jp.toNat = i2 - 1 := by omega
                  have hgetp : lf[i2 - 1]? = some (rd lf jp) := by simp [rd, htp, show i2 - 1 < lf.length by omega]
                  have hlt := hrise (i2 - 1) _ _ hgetp (by rw [show i2 - 1 + 1 = i2 by omega]; exact hget)
                  generalize rd lf ji2 = y at hx hh hlt
                  generalize rd lf jp = z at hx2 hlt
                  have hcmp : decide (y ≤ z) = false := decide_eq_false (by omega)
                  clear hget hgetp hti htp c hji2 c0 hlt hjp
                  replace p0 := eq_true p0
                  replace p1 := eq_true p1
                  replace q0 := eq_true q0
                  replace q1 := eq_true q1
                  go_upto_region 22 with (fail)
                  go_quiet ((go_at_call 10; exact hasQ HM5.out _ _ hh))
                  go_wp2
                  go_roundg k2
                  case measure => omega
                  case rel => exact ⟨i2 + 1, by first | rfl | (rw [hw']; done) | (simp [hw']; done), hrel2, ⟨by repeat (first | exact HB5.out | apply pw_below_drewN | apply Below.drew)⟩⟩
              · have cb : decide (ji2 < (lf.length : Int)) = false := decide_eq_false (by omega)
                clear hji2 c
                go_wp2_with (first
                  | (go_at_call 9; (with_reducible refine (hnew _).mono ?_); rintro e w6 ⟨b2, g2, rfl, hm, hb, hB⟩; have HM6 := Aside0.mk hm; have HM7 := Aside0.mk (HM5.out.below hB); have HB7 := Aside0.mk (below_step HB6.out hB); clear hm hb hB)
                  | (go_at_call 14; (with_reducible refine (orBadC HM7.out HM6.out hne).mono ?_); rintro e w8 ⟨rfl, hb⟩; have HM8 := Aside0.mk (HM7.out.below hb); have HB8 := Aside0.mk (below_step HB7.out hb); clear hb)
                  | (go_at_call 12; (with_reducible refine (countR HM8.out hn).mono ?_); rintro e w9 ⟨rfl, hb⟩; have HB9 := Aside0.mk (below_step HB8.out hb); clear hb)
                  | (go_at_call 15; (with_reducible refine (knownC _).mono ?_); rintro e w10 ⟨rfl, hb⟩; have HB10 := Aside0.mk (below_step HB9.out hb); clear hb))
                go_ret
                exact ⟨rfl, HB10.out⟩)
theorem partsW (W : World) (a0 : Int) (w0 : (Lit.int .i64 a0).wf = true) (A1 : Option Addr) (c1 : Nat) (l : List Int) (hr1 : Kd.C (Kd.int .i64) W A1 l.length l) (hc1 : l.length ≤ c1) (hm : l.length ≤ maxLen) (hw : ∀ x ∈ l, (Lit.int .i64 x).wf = true) (hy : l.length * 8 ≤ 140737488351232) : Calls Try.prog 3 #[.int .i64 a0, .slice A1 l.length c1] W fun e w' => e = .returned (.bool true) ∧ Below W.heap.size W w' := partsC a0 A1 c1 l W hr1 hc1
end Go.Proofs.Ytodadonpfcefbaa.Marks
