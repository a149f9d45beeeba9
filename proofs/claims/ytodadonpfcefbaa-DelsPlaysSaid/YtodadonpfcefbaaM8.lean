/- alike: the walk. -/
import Derived.Test.YtodadonpfcefbaaM7
namespace Go.Proofs.Ytodadonpfcefbaa.Marks
open Go.RowKit Go.Proofs.YtodadonpfcefbaaW.PrintWords Go.Proofs.YtodadonpfcefbaaW.PrintLast Go.Proofs.YtodadonpfcefbaaW.PrintMore Go.Proofs.Ytodadonpfcefbaa.QDelsReads Go.Proofs.Ytodadonpfcefbaa.Base
attribute [local go_sem] max2_int min2_int max_two min_two max_three min_three max_four min_four
set_option linter.unusedVariables false
set_option linter.unusedSimpArgs false
theorem same_l0 (l : List Int) (hl : l.length < 9223372036854775807) (d : Nat) : ∀ i, l.length - i = d → i ≤ l.length → Ev (fun k => columbariumbook_Same_int.l0 k l l (i : Int)) true := by
  induction d with
  | zero =>
    intro i h1 h2
    refine Ev.step (f := fun _ => some true) (fun k => ?_) (Ev.now _)
    rw [columbariumbook_Same_int.l0, if_neg (by omega)]
  | succ d ih =>
    intro i h1 h2
    refine Ev.step (f := fun k => columbariumbook_Same_int.l0 k l l ((i + 1 : Nat) : Int)) (fun k => ?_) (ih (i + 1) (by omega) (by omega))
    rw [columbariumbook_Same_int.l0, if_pos (by omega), if_pos (by omega), succ64 (by omega)]
    simp; omega
theorem same_self (l : List Int) (hl : l.length < 9223372036854775807) : ∃ k, columbariumbook_Same_int.f k l l = some true := by
  obtain ⟨k, hk⟩ := (same_l0 l hl l.length 0 (by omega) (by omega)).rounds
  exact ⟨k, by rw [columbariumbook_Same_int.f, if_pos rfl]; exact hk⟩
theorem leftFrom_append (l : List Bool) (b : Bool) : ∀ k, leftFrom k (l ++ [b]) = leftFrom k l ++ (if b = true then [] else [((k + l.length : Nat) : Int)]) := by
  induction l with
  | nil => intro k; cases b <;> rfl
  | cons a r ih =>
    intro k
    cases a with
    | true => rw [List.cons_append, leftFrom, leftFrom, ih, List.length_cons, show k + 1 + r.length = k + (r.length + 1) by omega]
    | false => rw [List.cons_append, leftFrom, leftFrom, ih, List.length_cons, show k + 1 + r.length = k + (r.length + 1) by omega, List.cons_append]
theorem leftL_take {l : List Bool} {i : Nat} (h : i < l.length) : leftL (l.take (i + 1)) = leftL (l.take i) ++ (if l[i] = true then [] else [(i : Int)]) := by
  have e : l.take (i + 1) = l.take i ++ [l[i]] := by rw [List.take_add_one, List.getElem?_eq_getElem h]; rfl
  rw [e, leftL, leftFrom_append, leftL, List.length_take, Nat.min_eq_left (by omega), Nat.zero_add]
theorem cntL_take {l : List Bool} {i : Nat} (h : i < l.length) : cntL (l.take (i + 1)) = cntL (l.take i) + (if l[i] = true then 1 else 0) := by
  have e : l.take (i + 1) = l.take i ++ [l[i]] := by rw [List.take_add_one, List.getElem?_eq_getElem h]; rfl
  unfold cntL
  rw [e, List.count_append]
  cases l[i] <;> simp
theorem leftL_le (l : List Bool) : (leftL l).length ≤ l.length := by have := leftFrom_length l 0; unfold leftL; omega
set_option maxHeartbeats 8000000 in
set_option maxRecDepth 100000 in
theorem alikeC {b g : Nat} {ls : List Bool} {W : World} (hM : MkL W b g ls) (A : Option Addr) (c : Nat) (hr : Kd.C Kd.bool W A ls.length ls) : Calls Try.prog 17 #[.pointer (some ⟨g, 0, none⟩), .slice A ls.length c] W fun e w' => e = .returned (.bool true) ∧ Below W.heap.size W w' := by
  have HM := Aside0.mk hM
  have HR := Aside0.mk hr
  have HN := Aside0.mk hM.small
  have HLe := Aside0.mk (leftL_le ls)
  have hro := (rowsC hM)
  have h1o : hasL ls (ls.length : Int) = false := hasL_out (by omega)
  have h1m : hasL ls (-1) = false := hasL_out (by omega)
  obtain ⟨ks, hks⟩ := same_self (leftL ls) (by have := leftL_le ls; have := hM.small; omega)
  clear hM hr hro
  go_enter Try.func17, Try.ntmps17
  go_wp2
  go_loopg [5, 6, 7] (ls.length + 1) (fun kq v5 v6 v7 w' => ∃ (i : Nat), v6 = .int .i64 (cntL (ls.take i)) ∧ v7 = .int .i64 (i : Int) ∧ Aside0 (i + kq = ls.length + 1 ∧ i ≤ ls.length) ∧ Aside0 (Kd.R (Kd.int .i64) 3 w' W.heap.size (fun _ => True) v5 (leftL (ls.take i))) ∧ Aside0 (Below W.heap.size W w'))
  case atStart => exact ⟨0, rfl, rfl, ⟨by simp⟩, ⟨Kd.R_nil _ _ _ _ _⟩, ⟨Below.refl _ _⟩⟩
  case round =>
    obtain ⟨i, rfl, rfl, HI, HO, HB⟩ := hrel
    have HM5 := Aside0.mk (HM.out.below HB.out)
    cases gk with
    | zero => have := HI.out; omega
    | succ k1 =>
      obtain ⟨ji, hji⟩ : ∃ j : Int, (i : Int) = j := ⟨_, rfl⟩
      rw [hji]
      by_cases cc : i < ls.length
      · have c1b : decide (ji < (ls.length : Int)) = true := decide_eq_true (by omega)
        have p0 : 0 ≤ ji := by omega
        have p1 : ji < (ls.length : Int) := by omega
        obtain ⟨ad, e1, hx⟩ := Kd.at_bool HR.out ji p0 p1
        cases e1
        have hti : ji.toNat = i := by omega
        have hxe : rdOf false ls ji = ls[i] := by simp [rdOf, hti, cc]
        have hh : hasL ls ji = ls[i] := by simp [hasL, hti, cc, p0]
        have hcn := cntL_take cc
        have hlt := leftL_take cc
        rw [hxe] at hx
        have hx0 := pw_cell_below HB.out hx
        have hw' : IntKind.i64.wrap (ji + 1) = ((i + 1 : Nat) : Int) := by have := HN.out; rw [IntKind.wrap_i64]; omega
        have hcr := cnt_range (ls.take i)
        have htl : (ls.take i).length ≤ ls.length := by simp; omega
        have hn1 : IntKind.i64.wrap (cntL (ls.take i) + 1) = cntL (ls.take i) + 1 := by have := HN.out; rw [IntKind.wrap_i64]; omega
        have hll := leftL_le (ls.take i)
        have hrel2 : Aside0 (i + 1 + k1 = ls.length + 1 ∧ i + 1 ≤ ls.length) := ⟨by have := HI.out; omega⟩
        have hlen : Aside0 ((leftL (ls.take i)).length ≤ 1048576) := ⟨by have := HN.out; omega⟩
        rw [hji] at hlt
        generalize ls[i] = d at hx0 hh hcn hlt
        generalize hn0 : cntL (ls.take i) = n at hcn hn1
        generalize leftL (ls.take i) = lf at hlt HO hlen
        clear hx hxe hti cc hji hcr htl hll
        replace p0 := eq_true p0
        replace p1 := eq_true p1
        go_upto_region 6 with (fail)
        cases d with
        | true =>
          rw [if_pos rfl] at hcn hlt
          go_quiet ((go_at_call 10; exact hasQ HM5.out _ _ hh))
          go_wp2
          go_roundg k1
          case measure => omega
          case rel => exact ⟨i + 1, by first | (rw [hcn]; done) | (simp [hcn, hn1]; done), by first | rfl | (rw [hw']; done) | (simp [hw']; done), hrel2, ⟨by rw [hlt, List.append_nil]; repeat (first | exact HO.out | apply Kd.R_drewN | apply Kd.R_drew)⟩, ⟨by repeat (first | exact HB.out | apply pw_below_drewN | apply Below.drew)⟩⟩
        | false =>
          rw [if_neg Bool.false_ne_true] at hcn hlt
          go_quiet ((go_at_call 10; exact hasQ HM5.out _ _ hh))
          go_wp2_with (first
            | ((with_reducible refine gate_builtin (b := .append) (xs := #[.tmp 28, .tmp 30]) rfl ?_); at_builtin; refine Kd.R_append (Kd.int .i64) W.heap.size rfl (.tmp 28) (.tmp 30) 22 3 (.int .i64 0) 8 rfl Try.underlying22 info3 rfl (by decide) (by omega) u5 lf ji [.int .i64 ji] (fun _ => True) (fun _ => False) rfl rfl ?aP (fun _ hk => hk.elim) ?aF ?aO (Below.refl _ _) ?aS ?aL ?_; (case aP => exact rfl); (case aF => exact (fun _ _ => trivial)); (case aO => (with_reducible repeat (first | apply Kd.R_alloc | apply Kd.R_drewN | apply Kd.R_drew)); exact HO.out); (case aS => exact (below_size (by repeat (first | exact HB.out | apply below_alloc | apply pw_below_drewN | apply Below.drew)))); (case aL => have := hlen.out; omega); intro v9 w9 ho hb hg hat; have HO9 := Aside0.mk ho; have HB9 := Aside0.mk ((show Below W.heap.size W _ from by repeat (first | exact HB.out | apply below_alloc | apply pw_below_drewN | apply Below.drew)).trans hb); clear ho hb hg hat))
          go_roundg k1
          case measure => omega
          case rel => exact ⟨i + 1, by first | (rw [hcn, Int.add_zero]; done) | (simp [hcn, hn0]; done), by first | rfl | (rw [hw']; done) | (simp [hw']; done), hrel2, ⟨by rw [hlt]; exact HO9.out⟩, HB9⟩
      · have c1b : decide (ji < (ls.length : Int)) = false := decide_eq_false (by omega)
        have hi : i = ls.length := by have := HI.out; omega
        subst hi
        rw [List.take_length] at HO
        have hcnt : cntL (ls.take ls.length) = cntL ls := by rw [List.take_length]
        generalize hn0 : cntL ls = n at hcnt
        obtain ⟨A5, c5, e5⟩ := Kd.R_slice HO.out
        subst e5
        rw [hcnt]
        clear hji hcnt cc
        go_wp2_with (first
          | (go_at_call 22; (with_reducible refine (rowsC HM5.out).mono ?_); rintro e w6 ⟨rfl, hb⟩; have HM6 := Aside0.mk (HM5.out.below hb); have HB6 := Aside0.mk (below_step HB.out hb); have HO6 := Aside0.mk (Kd.R_below HO.out hb); clear hb)
          | (go_at_call 12; (with_reducible refine (countR HM6.out hn0).mono ?_); rintro e w7 ⟨rfl, hb⟩; have HM7 := Aside0.mk (HM6.out.below hb); have HB7 := Aside0.mk (below_step HB6.out hb); have HO7 := Aside0.mk (Kd.R_below HO6.out hb); clear hb)
          | (go_at_call 13; (with_reducible refine (leftC HM7.out).mono ?_); rintro e w8 ⟨v8, rfl, ho, hb⟩; have HM8 := Aside0.mk (HM7.out.below hb); have HB8 := Aside0.mk (below_step HB7.out hb); have HO8 := Aside0.mk (Kd.R_below HO7.out hb); obtain ⟨A8, c8, e8⟩ := Kd.R_slice ho; subst e8; have HL8 := Aside0.mk ho; clear ho hb)
          | (go_at_call 23; (with_reducible refine (columbariumbook_Same_int.calls ks A8 c8 (leftL ls) A5 c5 (leftL ls) true _ (Kd.R_reads' HL8.out).2.2 (Kd.R_reads' HL8.out).2.1 (Kd.R_reads' HO8.out).2.2 (Kd.R_reads' HO8.out).2.1 hks).mono ?_); rintro e w9 ⟨rfl, hb⟩; have HM9 := Aside0.mk (HM8.out.below hb.below); have HB9 := Aside0.mk (below_step HB8.out hb.below); clear hb)
          | (go_at_call 10; (with_reducible refine (hasR HM9.out (ls.length : Int) h1o).mono ?_); rintro e w10 ⟨rfl, hb⟩; have HM10 := Aside0.mk (HM9.out.below hb); have HB10 := Aside0.mk (below_step HB9.out hb); clear hb)
          | (go_at_call 10; (with_reducible refine (hasR HM10.out (-1) h1m).mono ?_); rintro e w11 ⟨rfl, hb⟩; have HB11 := Aside0.mk (below_step HB10.out hb); clear hb))
        go_ret
        exact ⟨rfl, HB11.out⟩
end Go.Proofs.Ytodadonpfcefbaa.Marks
