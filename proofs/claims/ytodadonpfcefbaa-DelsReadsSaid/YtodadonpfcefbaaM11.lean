/- dels.Decode: the walk. -/
import Derived.Test.YtodadonpfcefbaaM10
import Derived.Test.YtodadonpfcefbaaQDelsReadsx9
namespace Go.Proofs.Ytodadonpfcefbaa.Marks
open Go.RowKit Go.Proofs.YtodadonpfcefbaaW.PrintWords Go.Proofs.YtodadonpfcefbaaW.PrintLast Go.Proofs.YtodadonpfcefbaaW.PrintMore Go.Proofs.Ytodadonpfcefbaa.QDelsReads Go.Proofs.Ytodadonpfcefbaa.Base
attribute [local go_sem] max2_int min2_int max_two min_two max_three min_three max_four min_four
set_option linter.unusedVariables false
set_option linter.unusedSimpArgs false
/-- What Decode comes to: marks or none, where they end, the refusal. -/
def decF (k : Nat) (l0 : List Int) (a : Int) : Option (Option (List Bool) × Int × Int) :=
  (varint_Small.f k l0 a).bind fun t => if t.2.2 = 0 then (if t.1 > 1048576 then some (none, 0, 4) else (runs_Decode.f k l0 t.2.1 t.1 1).bind fun u => if u.2.2 = 0 then (if (u.1.length : Int) = t.1 then some (some (u.1.map fun x => x == 1), u.2.1, 0) else none) else some (none, 0, u.2.2)) else some (none, 0, t.2.2)
/-- The marks behind i numbers. -/
def decAt (xs : List Int) (i : Nat) : List Bool := (xs.take i).map (fun x => x == 1) ++ List.replicate (xs.length - i) false
theorem decAt_length {xs : List Int} {i : Nat} (h : i ≤ xs.length) : (decAt xs i).length = xs.length := by simp [decAt]; omega
theorem decAt_step {xs : List Int} {i : Nat} {x : Int} (h : i < xs.length) (hx : xs[i]? = some x) : decAt xs (i + 1) = if (x == 1) = true then setL (decAt xs i) (i : Int) else decAt xs i := by
  have e1 : xs.take (i + 1) = xs.take i ++ [x] := by rw [List.take_add_one, hx]; rfl
  have e2 : List.replicate (xs.length - i) false = false :: List.replicate (xs.length - (i + 1)) false := by
    rw [show xs.length - i = (xs.length - (i + 1)) + 1 by omega, List.replicate_succ]
  have e3 : ((xs.take i).map (fun x => x == 1)).length = i := by simp; omega
  unfold decAt setL
  rw [e1, e2, List.map_append, List.append_assoc]
  simp only [show (0 : Int) ≤ (i : Int) from by omega, if_true, Int.toNat_natCast]
  cases hb : (x == 1) with
  | true =>
    rw [if_pos rfl, List.set_append_right _ _ (by omega), e3, Nat.sub_self]
    simp [hb]
  | false =>
    rw [if_neg Bool.false_ne_true]
    simp [hb]
theorem decAt_end (xs : List Int) : decAt xs xs.length = xs.map fun x => x == 1 := by simp [decAt]
set_option maxHeartbeats 8000000 in
set_option maxRecDepth 100000 in
theorem decBad {k : Nat} {A0 : Option Addr} {c0 : Nat} {l0 : List Int} {a r2 r3 : Int} {W : World} (hr0 : Kd.C (Kd.int .u8) W A0 l0.length l0) (hc0 : l0.length ≤ c0) (h : decF k l0 a = some (none, r2, r3)) : Calls Try.prog 20 #[.slice A0 l0.length c0, .int .i64 a] W fun e w' => e = .returned (.tuple #[.pointer none, .int .i64 r2, .int .i64 r3]) ∧ Below W.heap.size W w' := by
  have HR := Aside0.mk hr0
  unfold decF at h
  obtain ⟨⟨n, e1, y1⟩, h1, h⟩ := Option.bind_eq_some_iff.1 h
  replace h : (if y1 = 0 then (if n > 1048576 then some (none, 0, 4) else (runs_Decode.f k l0 e1 n 1).bind fun u => if u.2.2 = 0 then (if (u.1.length : Int) = n then some (some (u.1.map fun x => x == 1), u.2.1, 0) else none) else some (none, 0, u.2.2)) else some (none, 0, y1)) = some (none, r2, r3) := h
  by_cases c1 : y1 = 0
  · rw [if_pos c1] at h
    subst c1
    by_cases c2 : n > 1048576
    · rw [if_pos c2] at h
      simp only [Option.some.injEq, Prod.mk.injEq, true_and] at h
      obtain ⟨rfl, rfl⟩ := h
      have c2b : decide (1048576 < n) = true := decide_eq_true c2
      go_enter Try.func20, Try.ntmps20
      go_wp2_with (first
        | (go_at_call 28; (with_reducible refine (varint_Small.calls k A0 c0 l0 a n e1 0 _ HR.out hc0 h1).mono ?_); rintro e w1 ⟨rfl, hb⟩; have HB1 := Aside0.mk hb; clear hb))
      go_ret3
      exact ⟨rfl, HB1.out⟩
    · rw [if_neg c2] at h
      have c2b : decide (1048576 < n) = false := decide_eq_false c2
      obtain ⟨⟨xs, e2, y2⟩, h2, h⟩ := Option.bind_eq_some_iff.1 h
      replace h : (if y2 = 0 then (if (xs.length : Int) = n then some (some (xs.map fun x => x == 1), e2, 0) else none) else some (none, 0, y2)) = some (none, r2, r3) := h
      by_cases c3 : y2 = 0
      · rw [if_pos c3] at h
        split at h <;> simp at h
      · rw [if_neg c3] at h
        simp only [Option.some.injEq, Prod.mk.injEq, true_and] at h
        obtain ⟨rfl, rfl⟩ := h
        have c3b : (y2 == 0) = false := beq_eq_false_iff_ne.mpr c3
        have c3c : (y2 != 0) = true := bne_iff_ne.mpr c3
        go_enter Try.func20, Try.ntmps20
        go_wp2_with (first
          | (go_at_call 28; (with_reducible refine (varint_Small.calls k A0 c0 l0 a n e1 0 _ HR.out hc0 h1).mono ?_); rintro e w1 ⟨rfl, hb⟩; have HB1 := Aside0.mk hb; have HR1 := Aside0.mk (Kd.C_below HR.out hb); clear hb)
          | (go_at_call 29; (with_reducible refine (runs_Decode.calls k A0 c0 l0 e1 n 1 xs e2 y2 _ HR1.out hc0 h2).mono ?_); rintro e w2 ⟨v2, rfl, ho, hb⟩; have HB2 := Aside0.mk (below_step HB1.out hb); clear ho hb))
        go_ret3
        exact ⟨rfl, HB2.out⟩
  · rw [if_neg c1] at h
    simp only [Option.some.injEq, Prod.mk.injEq, true_and] at h
    obtain ⟨rfl, rfl⟩ := h
    have c1b : (y1 == 0) = false := beq_eq_false_iff_ne.mpr c1
    have c1c : (y1 != 0) = true := bne_iff_ne.mpr c1
    go_enter Try.func20, Try.ntmps20
    go_wp2_with (first
      | (go_at_call 28; (with_reducible refine (varint_Small.calls k A0 c0 l0 a n e1 y1 _ HR.out hc0 h1).mono ?_); rintro e w1 ⟨rfl, hb⟩; have HB1 := Aside0.mk hb; clear hb))
    go_ret3
    exact ⟨rfl, HB1.out⟩
set_option maxHeartbeats 8000000 in
set_option maxRecDepth 100000 in
theorem decOk {k : Nat} {A0 : Option Addr} {c0 : Nat} {l0 : List Int} {a r2 r3 : Int} {ls : List Bool} {W : World} (hr0 : Kd.C (Kd.int .u8) W A0 l0.length l0) (hc0 : l0.length ≤ c0) (h : decF k l0 a = some (some ls, r2, r3)) : Calls Try.prog 20 #[.slice A0 l0.length c0, .int .i64 a] W fun e w' => ∃ b g, e = .returned (.tuple #[.pointer (some ⟨g, 0, none⟩), .int .i64 r2, .int .i64 r3]) ∧ MkL w' b g ls ∧ W.heap.size ≤ b ∧ Below W.heap.size W w' := by
  have HR := Aside0.mk hr0
  unfold decF at h
  obtain ⟨⟨n, e1, y1⟩, h1, h⟩ := Option.bind_eq_some_iff.1 h
  replace h : (if y1 = 0 then (if n > 1048576 then some (none, 0, 4) else (runs_Decode.f k l0 e1 n 1).bind fun u => if u.2.2 = 0 then (if (u.1.length : Int) = n then some (some (u.1.map fun x => x == 1), u.2.1, 0) else none) else some (none, 0, u.2.2)) else some (none, 0, y1)) = some (some ls, r2, r3) := h
  by_cases c1 : y1 = 0
  case neg => rw [if_neg c1] at h; simp at h
  rw [if_pos c1] at h
  subst c1
  by_cases c2 : n > 1048576
  case pos => rw [if_pos c2] at h; simp at h
  rw [if_neg c2] at h
  have c2b : decide (1048576 < n) = false := decide_eq_false c2
  obtain ⟨⟨xs, e2, y2⟩, h2, h⟩ := Option.bind_eq_some_iff.1 h
  replace h : (if y2 = 0 then (if (xs.length : Int) = n then some (some (xs.map fun x => x == 1), e2, 0) else none) else some (none, 0, y2)) = some (some ls, r2, r3) := h
  by_cases c3 : y2 = 0
  case neg => rw [if_neg c3] at h; simp at h
  rw [if_pos c3] at h
  subst c3
  by_cases c4 : (xs.length : Int) = n
  case neg => rw [if_neg c4] at h; simp at h
  rw [if_pos c4] at h
  simp only [Option.some.injEq, Prod.mk.injEq] at h
  obtain ⟨rfl, rfl, rfl⟩ := h
  have hxl : xs.length ≤ 1048576 := by omega
  have HXL := Aside0.mk hxl
  have hnew := fun w => newC xs.length w hxl
  rw [c4] at hnew
  have HC4 := Aside0.mk c4
  clear c2 c4 hxl
  go_enter Try.func20, Try.ntmps20
  go_wp2_with (first
    | (go_at_call 28; (with_reducible refine (varint_Small.calls k A0 c0 l0 a n e1 0 _ HR.out hc0 h1).mono ?_); rintro e w1 ⟨rfl, hb⟩; have HB1 := Aside0.mk hb; have HR1 := Aside0.mk (Kd.C_below HR.out hb); clear hb)
    | (go_at_call 29; (with_reducible refine (runs_Decode.calls k A0 c0 l0 e1 n 1 xs e2 0 _ HR1.out hc0 h2).mono ?_); rintro e w2 ⟨v2, rfl, ho, hb⟩; have HB2 := Aside0.mk (below_step HB1.out hb); obtain ⟨A2, c2, ev⟩ := Kd.V_slice ho; subst ev; have HV2 := Aside0.mk (Kd.V_reads' ho).2.2; clear ho hb)
    | (go_at_call 9; (with_reducible refine (hnew _).mono ?_); rintro e w3 ⟨b, g, rfl, hm, hb, hB⟩; have HM3 := Aside0.mk hm; have Hb := Aside0.mk (Nat.le_trans HB2.out.size hb); have HB3 := Aside0.mk hB; have Hb3 := Aside0.mk hb; clear hm hb hB))
  go_loopg [47] (xs.length + 1) (fun kq v47 w' => ∃ i : Nat, v47 = .int .i64 (i : Int) ∧ Aside0 (i + kq = xs.length + 1 ∧ i ≤ xs.length) ∧ Aside0 (MkL w' b g (decAt xs i)) ∧ Aside0 (Below w2.heap.size w2 w'))
  case atStart => exact ⟨0, rfl, ⟨by omega, by omega⟩, ⟨by rw [show decAt xs 0 = List.replicate xs.length false from by simp [decAt]]; exact HM3.out⟩, HB3⟩
  case round =>
    clear HM3 HB3
    obtain ⟨i, rfl, HI, HM, HB⟩ := hrel
    cases gk with
    | zero => have := HI.out; omega
    | succ k1 =>
      obtain ⟨ji, hji⟩ : ∃ j : Int, (i : Int) = j := ⟨_, rfl⟩
      rw [hji]
      by_cases cc : i < xs.length
      · have c1b : decide (ji < (xs.length : Int)) = true := decide_eq_true (by omega)
        have p0 : 0 ≤ ji := by omega
        have p1 : ji < (xs.length : Int) := by omega
        obtain ⟨ad, e3, hx⟩ := Kd.at_int HV2.out ji p0 p1
        cases e3
        have hti : ji.toNat = i := by omega
        have hlx : xs[i]? = some (rd xs ji) := by simp [rd, hti, cc]
        generalize rd xs ji = x at hx hlx
        have hx0 := pw_cell_below HB.out hx
        have hst := decAt_step cc hlx
        have hw' : IntKind.i64.wrap (ji + 1) = ((i + 1 : Nat) : Int) := by have := HXL.out; rw [IntKind.wrap_i64]; omega
        have hrel2 : Aside0 (i + 1 + k1 = xs.length + 1 ∧ i + 1 ≤ xs.length) := ⟨by have := HI.out; omega⟩
        rw [hji] at hst
        generalize hd : (x == 1) = d at hst
        clear hx hlx hti cc hji
        replace p0 := eq_true p0
        replace p1 := eq_true p1
        cases d with
        | true =>
          rw [if_pos rfl] at hst
          go_wp2_with (first
            | (go_at_call 11; (with_reducible refine (setR HM.out ji rfl rfl).mono ?_); rintro e w4 ⟨rfl, hm, hg⟩; have HM4 := Aside0.mk hm; have HB4 := Aside0.mk (grown_below HB.out Hb3.out hg); clear hm hg))
          go_roundg k1
          case measure => omega
          case rel => exact ⟨i + 1, by first | rfl | (rw [hw']; done) | (simp [hw']; done), hrel2, ⟨by rw [hst]; exact HM4.out⟩, HB4⟩
        | false =>
          rw [if_neg Bool.false_ne_true] at hst
          go_wp2
          go_roundg k1
          case measure => omega
          case rel => exact ⟨i + 1, by first | rfl | (rw [hw']; done) | (simp [hw']; done), hrel2, ⟨by rw [hst]; exact HM.out⟩, HB⟩
      · have c1b : decide (ji < (xs.length : Int)) = false := decide_eq_false (by omega)
        have hi : i = xs.length := by have := HI.out; omega
        have hM := HM.out
        rw [hi, decAt_end] at hM
        clear hji cc
        go_wp2
        go_ret3
        exact ⟨b, g, rfl, hM, Hb.out, below_step HB2.out HB.out⟩
end Go.Proofs.Ytodadonpfcefbaa.Marks
